/- The abstract machine, part 2: a deterministic evaluator for the program's code and the proof that what it tells is so. Conditions: none beyond the theorems' own. -/
import Derived.Calls
import Derived.ChangeCalls
import Derived.LaidHandle
import Derived.LaidLaws
import Derived.Lib.LaidTab
import Derived.MakeChecks
import Derived.Orders
import Derived.ProofKit
import Derived.Stop.Joined
import Derived.Test.YtcllinmgllmpmaaAm1
set_option linter.unusedSimpArgs false
set_option linter.unusedVariables false
set_option maxRecDepth 100000
set_option maxHeartbeats 8000000
namespace Go.AM
theorem iK (ρ:Nat→Nat→Option (Nat × Nat)) (τ:Nat→Nat):∀ l,bn ρ τ l = l.map (ren ρ τ)
 | []=>rfl
 | a :: r=>by simp [bn,iK ρ τ r]
theorem lY (ρ:Nat→Nat→Option (Nat × Nat)) (τ:Nat→Nat) (l:List AV):(bn ρ τ l).length = l.length:=by simp [iK]
theorem Ku (ρ:Nat→Nat→Option (Nat × Nat)) (τ:Nat→Nat) (p:AV):ah (ren ρ τ p) = ah p:=by
 cases p
 case ptr o i f g=>simp only [ren];rcases ρ o g with _ | ⟨a,b⟩ <;> rfl
 case sl o i f g=>simp only [ren];rcases ρ o g with _ | ⟨a,b⟩ <;> rfl
 case map o g=>simp only [ren];rcases ρ o g with _ | ⟨a,b⟩ <;> rfl
 all_goals simp only [ren,ah,lY]
theorem Kv (ρ:Nat→Nat→Option (Nat × Nat)) (τ:Nat→Nat) (p:AV):aN (ren ρ τ p) = aN p:=by
 cases p
 case ptr o i f g=>simp only [ren];rcases ρ o g with _ | ⟨a,b⟩ <;> rfl
 case sl o i f g=>simp only [ren];rcases ρ o g with _ | ⟨a,b⟩ <;> rfl
 case map o g=>simp only [ren];rcases ρ o g with _ | ⟨a,b⟩ <;> rfl
 all_goals simp only [ren,aN]
theorem Kw (ρ:Nat→Nat→Option (Nat × Nat)) (τ:Nat→Nat) (p:AV):iH (ren ρ τ p) = iH p:=by
 cases p
 case ptr o i f g=>simp only [ren];rcases ρ o g with _ | ⟨a,b⟩ <;> rfl
 case sl o i f g=>simp only [ren];rcases ρ o g with _ | ⟨a,b⟩ <;> rfl
 case map o g=>simp only [ren];rcases ρ o g with _ | ⟨a,b⟩ <;> rfl
 all_goals simp only [ren,iH]
structure Ren (ρ:Nat→Nat→Option (Nat × Nat)) (τ:Nat→Nat) (K K':Kx) (T T':Nat→Nat→Prop) (ok:Nat→Prop):Prop where
 w:K'.w = K.w
 h:∀ o g o' g',ρ o g = some (o',g')→o' < K'.H.length∧∃ ob,live K.H o g = some ob∧∀ ob',K'.H[o']? = some (some ob')→g'≤ob'.g∧(ob'.g = g'→K'.μ o' = K.μ o∧Same ob ob')
 t:∀ t,ok t→∀ b,NT K T t b→NT K' T' (τ t) b
section
variable {ρ:Nat→Nat→Option (Nat × Nat)} {τ:Nat→Nat} {K K':Kx} {T T':Nat→Nat→Prop} {ok:Nat→Prop}
mutual
theorem N8 {w:World} {N:Nat→Prop} (ρ:Nat→Nat→Option (Nat × Nat)) (τ:Nat→Nat):(a:AV)→(v:Value)→RV w N a v→RV w N (ren ρ τ a) v
 | .top,_,_=>trivial
 | .bool _,v,hv=>by simpa [ren,RV] using hv
 | .int _ _,v,hv=>by simpa [ren,RV] using hv
 | .str _,v,hv=>by simpa [ren,RV] using hv
 | .gK,v,hv=>by simpa [ren,RV] using hv
 | .jD,v,hv=>by simpa [ren,RV] using hv
 | .iD,v,hv=>by simpa [ren,RV] using hv
 | .ro c p t,v,hv=>by simpa [ren,RV] using hv
 | .ptr ..,v,hv=>by simp [RV] at hv
 | .iW ..,v,hv=>by simp [RV] at hv
 | .sl ..,v,hv=>by simp [RV] at hv
 | .agg ..,v,hv=>by simp [RV] at hv
 | .tup ..,v,hv=>by simp [RV] at hv
 | .fn ..,v,hv=>by simp [RV] at hv
 | .map ..,v,hv=>by simp [RV] at hv
 | .pn,v,hv=>by simp [RV] at hv
 | .pb ..,v,hv=>by simp [RV] at hv
 | .pi ..,v,hv=>by simp [RV] at hv
 | .pc ..,v,hv=>by simp [RV] at hv
 | .pr ..,v,hv=>by simp [RV] at hv
 | .pm ..,v,hv=>by simp [RV] at hv
end
theorem N9 {S S':AV→Value→Prop} {p:AV} {r:Nat→Option Value} (h:∀ a v,(∀ t ∈ tags a,t ∈ tags p)→S a v→S' (ren ρ τ a) v) (hp:GP S p r):GP S' (ren ρ τ p) r:=by
 cases p <;> simp only [GP,ren] at hp ⊢ <;> try exact hp
 case pc l =>
  intro j a ha
  rw [iK,List.getElem?_map] at ha
  cases hb:l[j]? with
  | none=>rw [hb] at ha;cases ha
  | some b =>
   rw [hb] at ha
   simp only [Option.map_some,Option.some.injEq] at ha
   subst ha
   obtain ⟨v,h1,h2,h3⟩:=hp j b hb
   exact ⟨v,h1,h2,h b v (fun t ht=>by simp only [tags];exact iI (List.mem_of_getElem? hb) t ht) h3⟩
 case pr e l =>
  refine ⟨hp.1,fun j a ha=>?_⟩
  rw [iK,List.getElem?_map] at ha
  cases hb:l[j]? with
  | none=>rw [hb] at ha;cases ha
  | some b =>
   rw [hb] at ha
   simp only [Option.map_some,Option.some.injEq] at ha
   subst ha
   obtain ⟨cs,rfl,h1,h2⟩:=hp.2 j b hb
   refine ⟨bn ρ τ cs,by simp [ren],by rw [lY,h1],fun k a ha=>?_⟩
   rw [iK,List.getElem?_map] at ha
   cases hc:cs[k]? with
   | none=>rw [hc] at ha;cases ha
   | some c =>
    rw [hc] at ha
    simp only [Option.map_some,Option.some.injEq] at ha
    subst ha
    obtain ⟨v,h3,h4,h5⟩:=h2 k c hc
    exact ⟨v,h3,h4,h c v (fun t ht=>by
     simp only [tags]
     exact iI (List.mem_of_getElem? hb) t (by simp only [tags];exact iI (List.mem_of_getElem? hc) t ht)) h5⟩
theorem aQ.ren (R:Ren ρ τ K K' T T' ok) {a:AV} {v:Value} (ht:∀ t ∈ tags a,ok t) (h:aQ K T a v):aQ K' T' (ren ρ τ a) v:=by
 cases a
 case ptr o i f g =>
  simp only [aQ] at h
  rcases hρ:ρ o g with _ | ⟨o',g'⟩
  ·simp only [Go.AM.ren,hρ,aQ,RV]
  ·simp only [Go.AM.ren,hρ]
   obtain ⟨h1,ob,h2,h3⟩:=R.h o g o' g' hρ
   obtain ⟨ho,hg⟩:=bI.1 h2
   simp only [aQ]
   refine ⟨h1,h.2.1,fun ob' Dx=>⟨(h3 ob' Dx).1,fun e=>?_⟩⟩
   obtain ⟨h4,h5⟩:=(h3 ob' Dx).2 e
   obtain ⟨h6,h7⟩:=(h.2.2 ob ho).2 hg
   rw [h4,h5.1,h5.2.2.2]
   exact ⟨h6,h7⟩
 case sl o off len g =>
  simp only [aQ] at h
  rcases hρ:ρ o g with _ | ⟨o',g'⟩
  ·simp only [Go.AM.ren,hρ,aQ,RV]
  ·simp only [Go.AM.ren,hρ]
   obtain ⟨h1,ob,h2,h3⟩:=R.h o g o' g' hρ
   obtain ⟨ho,hg⟩:=bI.1 h2
   simp only [aQ]
   refine ⟨h1,h.2.1,fun ob' Dx=>⟨(h3 ob' Dx).1,fun e=>?_⟩⟩
   obtain ⟨h4,h5⟩:=(h3 ob' Dx).2 e
   have:=(h.2.2 ob ho).2 hg
   unfold Dy at this ⊢
   rw [h4,h5.1,h5.2.1,h5.2.2.1,h5.2.2.2]
   exact this
 case map o g =>
  simp only [aQ] at h
  rcases hρ:ρ o g with _ | ⟨o',g'⟩
  ·simp only [Go.AM.ren,hρ,aQ,RV]
  ·simp only [Go.AM.ren,hρ]
   obtain ⟨h1,ob,h2,h3⟩:=R.h o g o' g' hρ
   obtain ⟨ho,hg⟩:=bI.1 h2
   simp only [aQ]
   refine ⟨h1,h.2.1,fun ob' Dx=>⟨(h3 ob' Dx).1,fun e=>?_⟩⟩
   obtain ⟨h4,h5⟩:=(h3 ob' Dx).2 e
   obtain ⟨h6,h7⟩:=(h.2.2 ob ho).2 hg
   rw [h4,h5.2.2.2]
   exact ⟨h6,h7⟩
 case ro c p t =>
  simp only [aQ,Go.AM.ren] at h ⊢
  rw [R.w]
  have:=oC (w:=K.w) (w':=K.w) (fun b hb=>⟨R.t t (ht t (by simp [tags])) b hb,fun _ _ h=>h⟩) _ _ h
  simpa [RV] using this
 all_goals
  simp only [aQ] at h
  have:=N8 (w:=K.w) ρ τ _ _ h
  simp only [Go.AM.ren] at this ⊢
  simp only [aQ]
  rw [R.w]
  exact this
theorem iL.ren (R:Ren ρ τ K K' T T' ok) {p:AV} {r:Nat→Option Value} (ht:∀ t ∈ tags p,ok t) (h:iL K T p r):iL K' T' (ren ρ τ p) r :=
 N9 (fun _ _ hs h=>aQ.ren R (fun t h'=>ht t (hs t h')) h) h
theorem IQ (ρ:Nat→Nat→Option (Nat × Nat)) (τ:Nat→Nat) (p:AV):aS (ren ρ τ p) = aS p:=by
 unfold aS;rw [Ku,Kv]
theorem aH.s {K:Kx} {T:Nat→Nat→Prop} {a:AV} {v:Value} (h:aQ K T a v):aH K T a v:=by
 cases a <;> simp only [aH] <;> first | exact h | (simp [aQ,RV] at h;done)
theorem aH.ren (R:Ren ρ τ K K' T T' ok) {a:AV} {v:Value} (ht:∀ t ∈ tags a,ok t) (h:aH K T a v):aH K' T' (ren ρ τ a) v:=by
 cases a
 case agg p =>
  simp only [aH,Go.AM.ren] at h ⊢
  obtain ⟨cs,h1,h2,h3⟩:=h
  exact ⟨cs,h1,by rw [IQ];exact h2,iL.ren R ht h3⟩
 case fn f l =>
  simp only [aH,Go.AM.ren] at h ⊢
  obtain ⟨vs,h1,h2,h3⟩:=h
  refine ⟨vs,h1,by rw [lY];exact h2,fun j a ha=>?_⟩
  rw [iK,List.getElem?_map] at ha
  cases hb:l[j]? with
  | none=>rw [hb] at ha;cases ha
  | some b =>
   rw [hb] at ha
   simp only [Option.map_some,Option.some.injEq] at ha
   subst ha
   obtain ⟨u,h4,h5⟩:=h3 j b hb
   exact ⟨u,h4,aQ.ren R (fun t h'=>ht t (by simp only [tags];exact iI (List.mem_of_getElem? hb) t h')) h5⟩
 case iW p i f t =>
  simp only [aH,Go.AM.ren] at h ⊢
  obtain ⟨b,off,h1,h2,h3,h4⟩:=h
  have hn:=fun b hb=>R.t t (ht t (by simp [tags])) b hb
  exact ⟨b,off,h1,h2,hn b h3,by rw [R.w];exact jy (fun b hb=>⟨hn b hb,fun _ _ h=>h⟩) p _ _ (fun _ _ h=>h) h4⟩
 all_goals exact aH.s (aQ.ren R ht h)
theorem aC.ren (R:Ren ρ τ K K' T T' ok) {a:AV} {v:Value} (ht:∀ t ∈ tags a,ok t) (h:aC K T a v):aC K' T' (ren ρ τ a) v:=by
 by_cases hn:nD a = true
 ·have h1:aH K T a v:=by cases a <;> first | exact h | (simp [nD] at hn;done)
  exact (aH.ren R ht h1).v
 ·cases a <;> simp [nD] at hn
  case tup l =>
   simp only [aC,Go.AM.ren] at h ⊢
   obtain ⟨vs,h1,h2,h3⟩:=h
   refine ⟨vs,h1,by rw [lY];exact h2,fun j a ha=>?_⟩
   rw [iK,List.getElem?_map] at ha
   cases hb:l[j]? with
   | none=>rw [hb] at ha;cases ha
   | some b =>
    rw [hb] at ha
    simp only [Option.map_some,Option.some.injEq] at ha
    subst ha
    obtain ⟨u,h4,h5⟩:=h3 j b hb
    exact ⟨u,h4,aH.ren R (fun t h'=>ht t (by simp only [tags];exact iI (List.mem_of_getElem? hb) t h')) h5⟩
theorem aH.WV (R:Ren ρ τ K K' T T' ok) {a:AV} {v:Value} (ht:∀ t ∈ Ed a,ok t) (h:aH K T a v):aH K' T' (Go.AM.ren ρ τ a) v:=by
 cases a
 case ro c p t =>
  by_cases hp:ah p = 0
  ·simp only [aH,aQ,RV,Go.AM.ren] at h ⊢
   obtain ⟨ad,cap,h1,h2,h3⟩:=h
   exact ⟨ad,cap,h1,h2,fun _ _ hn=>absurd hp hn⟩
  ·exact aH.ren R (fun t' h'=>ht t' (by simpa [Ed,hp,tags] using h')) h
 all_goals exact aH.ren R ht h
theorem aC.WV (R:Ren ρ τ K K' T T' ok) {a:AV} {v:Value} (ht:∀ t ∈ tq a,ok t) (h:aC K T a v):aC K' T' (Go.AM.ren ρ τ a) v:=by
 by_cases hn:nD a = true
 ·have h1:aH K T a v:=by cases a <;> first | exact h | (simp [nD] at hn;done)
  exact (aH.WV R (by cases a <;> first | exact ht | (simp [nD] at hn;done)) h1).v
 ·cases a <;> simp [nD] at hn
  case tup l =>
   simp only [aC,Go.AM.ren] at h ⊢
   obtain ⟨vs,h1,h2,h3⟩:=h
   refine ⟨vs,h1,by rw [lY];exact h2,fun j a ha=>?_⟩
   rw [iK,List.getElem?_map] at ha
   cases hb:l[j]? with
   | none=>rw [hb] at ha;cases ha
   | some b =>
    rw [hb] at ha
    simp only [Option.map_some,Option.some.injEq] at ha
    subst ha
    obtain ⟨u,h4,h5⟩:=h3 j b hb
    exact ⟨u,h4,aH.WV R (fun t h'=>ht t (by simp only [tq];exact List.mem_flatMap.2 ⟨b,List.mem_of_getElem? hb,h'⟩)) h5⟩
theorem dB (ρ:Nat→Nat→Option (Nat × Nat)) (τ:Nat→Nat) (g:Nat) (ob:Obj):Same ob (aT ρ τ g ob) :=
 ⟨Kv ρ τ ob.p,Ku ρ τ ob.p,rfl,Kw ρ τ ob.p⟩
theorem WW {w:World} {N N':Nat→Prop} {a:AV} {v:Value} (h:tags a = []) (hv:RV w N a v):RV w N' a v:=by
 cases a <;> first | (simp [tags] at h;done) | exact hv | (simp [RV] at hv;done) | (simpa [RV] using hv)
theorem CV {ob:Obj} {t:Nat} (h:t ∈ lZ ob):t ∈ dF ob:=by
 unfold lZ at h
 split at h
 ·cases h
 ·exact h
theorem fH.ren (R:Ren ρ τ K K' T T' ok) {ob:Obj} {r:Nat→Option Value} {g:Nat} (ht:∀ t ∈ lZ ob,ok t) (h:fH K T ob r):fH K' T' (aT ρ τ g ob) r:=by
 have e:(aT ρ τ g ob).ids = ob.ids:=rfl
 have e2:(aT ρ τ g ob).p = Go.AM.ren ρ τ ob.p:=rfl
 have e3:(aT ρ τ g ob).tg = τ ob.tg:=rfl
 unfold fH at h ⊢
 unfold lZ dF at ht
 by_cases hi:ob.ids = true
 ·rw [if_pos hi] at h ht
  rw [if_neg (by simp [hi])] at ht
  rw [e,if_pos hi,e2]
  exact iL.ren R ht h
 ·rw [if_neg hi] at h ht
  rw [e,if_neg hi,e2,e3]
  by_cases hf:tags ob.p = []
  ·rw [R.w]
   refine jk.2 (N9 (fun a v hs hv=>?_) (jk.1 h))
   have ha:tags a = []:=List.eq_nil_iff_forall_not_mem.2 fun t h'=>by have:=hs t h';rw [hf] at this;cases this
   exact N8 ρ τ a v (WW ha hv)
  rw [if_neg (by simp [hf])] at ht
  have hn:=fun b hb=>R.t ob.tg (ht _ (by simp)) b hb
  rw [R.w]
  refine jk.2 (N9 (fun a v _ hv=>?_) (jk.1 h))
  exact N8 ρ τ a v (oC (fun b hb=>⟨hn b hb,fun _ _ h=>h⟩) a v hv)
theorem lU.ren {k:AV} {v:Value} (h:lU k v):lU (Go.AM.ren ρ τ k) v:=by
 unfold lU at h
 split at h <;> simp_all [Go.AM.ren,lU]
theorem fU.ren (R:Ren ρ τ K K' T T' ok) {k o:Nat} {ob:Obj} {g:Nat} (ht:∀ t ∈ lZ ob,ok t) (hμ:K'.μ o = K.μ k) (h:fU K T k ob):fU K' T' o (aT ρ τ g ob):=by
 by_cases hpm:iH ob.p = true
 ·cases hp:ob.p <;> rw [hp] at hpm <;> simp only [iH,Bool.false_eq_true] at hpm
  case pm l =>
   have hl:∀ t ∈ aU l,ok t:=by
    intro t h'
    refine ht t ?_
    unfold lZ dF
    rw [hp]
    rw [if_neg (by
     intro h0
     simp only [Bool.and_eq_true,List.isEmpty_iff,tags] at h0
     rw [h0.2] at h'
     cases h')]
    split
    ·simpa [tags] using h'
    ·simp [h']
   unfold fU at h ⊢
   simp only [aT,hp,Go.AM.ren] at h ⊢
   rw [hμ,R.w]
   obtain ⟨es,clock,h1,h2,h3,h4⟩:=h
   refine ⟨es,clock,h1,by rw [lY];exact h2,by rw [lY];exact h3,fun i a ha=>?_⟩
   rw [iK,List.getElem?_map] at ha
   cases hb:l[i]? with
   | none=>rw [hb] at ha;cases ha
   | some b =>
    rw [hb] at ha
    simp only [Option.map_some,Option.some.injEq] at ha
    subst ha
    obtain ⟨k,v,e,rfl,h6,h7,h8,h9⟩:=h4 i b hb
    refine ⟨Go.AM.ren ρ τ k,Go.AM.ren ρ τ v,e,by simp [Go.AM.ren,bn],h6,h7,lU.ren h8,aH.ren R (fun t h'=>hl t (iI (List.mem_of_getElem? hb) t ?_)) h9⟩
    simp [tags,aU,h']
 ·have Ky:iH ob.p = false:=by simpa using hpm
  have aaT:iH (aT ρ τ g ob).p = false:=by simp only [aT];rw [Kw];exact Ky
  obtain ⟨h1,h2⟩:=h.open Ky
  have hS:=dB ρ τ g ob
  have:xk (K'.μ o) (aT ρ τ g ob)∧DN K' T' (K'.μ o) (aT ρ τ g ob):=by
   rw [hμ]
   refine ⟨?_,fun hc=>?_⟩
   ·unfold xk at h1 ⊢
    rw [hS.2.1,hS.2.2.1]
    exact h1
   ·obtain ⟨cur,E,h3,h4,h5,h6⟩:=h2 hc
    exact ⟨cur,E,by rw [R.w];exact h3,by rw [hS.1];exact h4,by rw [hS.1];exact h5,fH.ren R ht h6⟩
  unfold fU
  split
  ·rename_i heq;rw [heq] at aaT;simp [iH] at aaT
  ·exact this
end
theorem tu (H:Heap):∀ (n:Nat) (l acc:List Nat),acc.Nodup→(∀ o ∈ acc,∃ ob,H[o]? = some (some ob))→(reach H n l acc).Nodup∧∀ o ∈ reach H n l acc,∃ ob,H[o]? = some (some ob)
 | 0,_,acc,h1,h2=>by simpa [reach] using ⟨h1,h2⟩
 | n + 1,[],acc,h1,h2=>by simpa [reach] using ⟨h1,h2⟩
 | n + 1,o :: r,acc,h1,h2=>by
  unfold reach
  split
  ·exact tu H n r acc h1 h2
  ·rename_i hc
   split
   ·rename_i ob hob
    refine tu H n _ _ ?_ ?_
    ·rw [List.nodup_append]
     refine ⟨h1,by simp,fun a ha b hb=>?_⟩
     simp only [List.mem_singleton] at hb
     subst hb
     rintro rfl
     exact hc (by simpa using ha)
    ·intro x hx
     rcases List.mem_append.1 hx with hx | hx
     ·exact h2 x hx
     ·simp only [List.mem_singleton] at hx
      subst hx
      exact ⟨ob,hob⟩
   ·exact tu H n r acc h1 h2
end Go.AM
namespace Go.AM
def nG (K:Kx) (o b:Nat):Prop:=∃ ob,K.H[o]? = some (some ob)∧Real ob (K.μ o)∧(K.μ o).blk = b
theorem nG.own {K:Kx} {o b:Nat} (h:nG K o b):Own K b:=let ⟨ob,h1,h2,h3⟩:=h;⟨o,ob,h1,h2,h3⟩
theorem nG.inj {C:Ctx} {K:Kx} {T:Nat→Nat→Prop} (hI:Inv C K T) {o o' b:Nat} (h:nG K o b) (h':nG K o' b):o = o':=by
 obtain ⟨ob,h1,h2,h3⟩:=h
 obtain ⟨ob',h4,h5,h6⟩:=h'
 exact hI.inj o o' ob ob' h1 h4 h2 h5 (h3.trans h6.symm)
def Tc (K:Kx) (T:Nat→Nat→Prop) (π:List Nat) (ls:List fC) (t b:Nat):Prop :=
 K.w.heap.size≤b∨(∃ o ∈ π,nG K o b)∨(t = dG∧NT K T dG b) ∨
 ∃ i x,t = i + 1∧ls[i]? = some x∧((∃ o ∈ x.objs,nG K o b)∨∃ t' ∈ x.tags,NT K T t' b)
def jg (K:Kx) (π:List Nat) (t:Nat):Kx:=⟨fun k=>K.μ (π.getD k 0),π.map (fun o=>(aX K.H o).map (aT (dH K.H π) (fun _=>t) 0)),K.w⟩
theorem uz:∀ {l:List Nat} {o i k:Nat},idxOf l o i = some k→i≤k∧l[k - i]? = some o
 | [],o,i,k,h=>by simp [idxOf] at h
 | a :: r,o,i,k,h=>by
  unfold idxOf at h
  split at h
  ·rename_i ha
   simp only [Option.some.injEq] at h
   subst h;subst ha
   simp
  ·obtain ⟨h1,h2⟩:=uz h
   refine ⟨by omega,?_⟩
   rw [show k - i = (k - (i + 1)) + 1 by omega]
   simpa using h2
theorem nK {H:Heap} {o:Nat} {ob:Obj}:aX H o = some ob ↔ H[o]? = some (some ob):=by
 unfold aX
 cases h:H[o]? with
 | none=>simp
 | some x=>simp
theorem uD {ob:Obj}:∀ {l:List (Option Obj)},some ob ∈ l→∀ t ∈ dF ob,t ∈ ay l
 | [],h,_,_=>by simp at h
 | none :: r,h,t,ht=>by
  have:some ob ∈ r:=by simpa using h
  simpa [ay] using uD this t ht
 | some a :: r,h,t,ht=>by
  simp only [List.mem_cons,Option.some.injEq] at h
  rcases h with rfl | h
  ·simp [ay,ht]
  ·simp [ay,uD h t ht]
theorem oD {ob:Obj}:∀ {l:List (Option Obj)},some ob ∈ l→∀ t ∈ lZ ob,t ∈ cu l
 | [],h,_,_=>by simp at h
 | none :: r,h,t,ht=>by
  have:some ob ∈ r:=by simpa using h
  simpa [cu] using oD this t ht
 | some a :: r,h,t,ht=>by
  simp only [List.mem_cons,Option.some.injEq] at h
  rcases h with rfl | h
  ·simp [cu,ht]
  ·simp [cu,oD h t ht]
theorem oG {t:Nat}:∀ {l:List (Option Obj)},t ∈ cu l→t ∈ ay l
 | [],h=>by cases h
 | none :: r,h=>by
  simp only [cu] at h
  simp only [ay]
  exact oG h
 | some ob :: r,h=>by
  simp only [cu,List.mem_append] at h
  simp only [ay,List.mem_append]
  exact h.imp CV oG
theorem A8 {a:AV} {t:Nat} (h:t ∈ Ed a):t ∈ tags a:=by
 cases a <;> try exact h
 case ro c p t' =>
  simp only [Ed] at h
  split at h
  ·cases h
  ·simpa [tags] using h
theorem GR {a:AV} {t:Nat} (h:t ∈ tq a):t ∈ tags a:=by
 cases a <;> try exact A8 h
 case tup l =>
  obtain ⟨b,hb,ht⟩:=List.mem_flatMap.1 h
  simp only [tags]
  obtain ⟨j,hj⟩:=List.getElem?_of_mem hb
  exact iI hb t (A8 ht)
section
variable {C:Ctx} {K:Kx} {T:Nat→Nat→Prop} {π:List Nat} {ls:List fC} {n:Nat}
theorem qy {k:Nat} {ob':Obj} (h:(jg K π n).H[k]? = some (some ob')) :
  ∃ o ob,π[k]? = some o∧K.H[o]? = some (some ob)∧ob' = aT (dH K.H π) (fun _=>n) 0 ob∧(jg K π n).μ k = K.μ o:=by
 simp only [jg,List.getElem?_map] at h
 cases ho:π[k]? with
 | none=>rw [ho] at h;cases h
 | some o =>
  rw [ho] at h
  simp only [Option.map_some,Option.some.injEq] at h
  cases hob:aX K.H o with
  | none=>rw [hob] at h;cases h
  | some ob =>
   rw [hob] at h
   simp only [Option.map_some,Option.some.injEq] at h
   exact ⟨o,ob,rfl,nK.1 hob,h.symm,by simp [jg,ho]⟩
theorem Real.same {ob ob':Obj} {m:Pl} (hs:Same ob ob'):Real ob' m ↔ Real ob m:=by
 unfold Real
 rw [hs.2.2.2]
theorem nM {b:Nat}:Own (jg K π n) b→∃ o ∈ π,nG K o b:=by
 rintro ⟨k,ob',h1,h2,h3⟩
 obtain ⟨o,ob,g1,g2,g3,g4⟩:=qy h1
 subst g3
 rw [g4] at h2 h3
 exact ⟨o,List.mem_of_getElem? g1,ob,g2,(Real.same (dB _ _ _ ob)).1 h2,h3⟩
theorem Ee (hI:Inv C K T) {t' t b:Nat} (h:NT K T t' b) (ht:Tc K T π ls t b):NT (jg K π n) (Tc K T π ls) t b :=
 ⟨ht,fun ho=>let ⟨_,_,h1⟩:=nM ho;h.2.1 h1.own,h.2.2⟩
theorem Ba (hI:Inv C K T) (τ:Nat→Nat) (ok:Nat→Prop) (hok:∀ t,ok t→∀ b,NT K T t b→Tc K T π ls (τ t) b):Ren (dH K.H π) τ K (jg K π n) T (Tc K T π ls) ok where
 w:=rfl
 h:=by
  intro o g o' g' h
  unfold dH at h
  split at h
  ·rename_i ob hob
   cases hi:idxOf π o 0 with
   | none=>rw [hi] at h;cases h
   | some k =>
    rw [hi] at h
    simp only [Option.map_some,Option.some.injEq,Prod.mk.injEq] at h
    obtain ⟨rfl,rfl⟩:=h
    obtain ⟨_,h1⟩:=uz hi
    rw [Nat.sub_zero] at h1
    refine ⟨by have:=(List.getElem?_eq_some_iff.1 h1).1;simpa [jg] using this,ob,hob,fun ob' Dx=>⟨Nat.zero_le _,fun _=>?_⟩⟩
    obtain ⟨o2,ob2,g1,g2,g3,g4⟩:=qy Dx
    rw [h1] at g1
    simp only [Option.some.injEq] at g1
    subst g1
    rw [(bI.1 hob).1] at g2
    simp only [Option.some.injEq] at g2
    subst g2;subst g3
    exact ⟨g4,dB _ _ _ ob⟩
  ·cases h
 t:=fun t ht b hb=>Ee hI hb (hok t ht b hb)
theorem RG (hI:Inv C K T) (hnd:π.Nodup) (hn:n + 1 < dG) (hother:ls[n]? = some ⟨[],ay (π.map (aX K.H))⟩):Inv C (jg K π (n + 1)) (Tc K T π ls) where
 obj:=by
  intro k ob' h
  obtain ⟨o,ob,g1,g2,g3,g4⟩:=qy h
  subst g3
  have hmem:∀ t ∈ lZ ob,t ∈ ay (π.map (aX K.H)):=by
   intro t ht
   exact uD (List.mem_map.2 ⟨o,List.mem_of_getElem? g1,nK.2 g2⟩) t (CV ht)
  exact fU.ren (Ba (n:=n + 1) hI (fun _=>n + 1) (fun t=>t ∈ ay (π.map (aX K.H))) (fun t ht b hb=>.inr (.inr (.inr ⟨n,_,rfl,hother,.inr ⟨t,ht,hb⟩⟩)))) hmem g4 (hI.obj o ob g2)
 inj:=by
  intro k k' ob ob' h h' hr hr' hb
  obtain ⟨o,ob1,g1,g2,g3,g4⟩:=qy h
  obtain ⟨o',Dz,g1',g2',g3',g4'⟩:=qy h'
  subst g3;subst g3'
  rw [g4] at hr hb
  rw [g4'] at hr' hb
  have:=hI.inj o o' ob1 Dz g2 g2' ((Real.same (dB _ _ _ _)).1 hr) ((Real.same (dB _ _ _ _)).1 hr') hb
  subst this
  have e1:=List.getElem?_eq_some_iff.1 g1
  have e2:=List.getElem?_eq_some_iff.1 g1'
  exact (List.getElem_inj hnd).1 (e1.2.trans e2.2.symm)
 own:=by
  intro b hb
  obtain ⟨o,ho,h⟩:=nM hb
  exact ⟨(hI.own b h.own).1,.inr (.inl ⟨o,ho,h⟩)⟩
 new:=fun b hb=>.inl hb
 mono:=by
  rintro t b (h | h | ⟨h,_⟩ | ⟨i,x,h,_⟩)
  ·exact .inl h
  ·exact .inr (.inl h)
  ·simp [dG] at h
  ·omega
 glob:=by
  intro g p hg
  obtain ⟨h1,h2,h3⟩:=hI.glob g p hg
  have hnt:∀ b,NT K T dG b→NT (jg K π (n + 1)) (Tc K T π ls) dG b:=fun b hb=>Ee hI hb (.inr (.inr (.inl ⟨rfl,hb⟩)))
  exact ⟨h1,hnt _ h2,jy (fun b hb=>⟨hnt b hb,fun _ _ h=>h⟩) p _ _ (fun _ _ h=>h) h3⟩
end
end Go.AM
namespace Go.AM
def Cv (ls:List fC) (i:Nat) (y:fC):Prop:=∃ x,ls[i]? = some x∧(∀ o ∈ y.objs,o ∈ x.objs)∧∀ t ∈ y.tags,t ∈ x.tags
def Off (π:List Nat) (y:fC):Prop:=∀ o ∈ y.objs,o ∉ π
section
variable {C:Ctx} {K:Kx} {T:Nat→Nat→Prop} {π:List Nat} {ls:List fC} {n i:Nat}
theorem Ef (hI:Inv C K T) {y:fC} (hc:Cv ls i y) {t' b:Nat} (ht:t' ∈ y.tags) (h:NT K T t' b):NT (jg K π n) (Tc K T π ls) (i + 1) b:=by
 obtain ⟨x,h1,_,h3⟩:=hc
 exact Ee hI h (.inr (.inr (.inr ⟨i,x,rfl,h1,.inr ⟨t',h3 _ ht,h⟩⟩)))
theorem Ur (hI:Inv C K T) {y:fC} (hc:Cv ls i y) (hd:Off π y) {o b:Nat} (ho:o ∈ y.objs) (h:nG K o b):NT (jg K π n) (Tc K T π ls) (i + 1) b:=by
 obtain ⟨x,h1,h2,_⟩:=hc
 refine ⟨.inr (.inr (.inr ⟨i,x,rfl,h1,.inl ⟨o,h2 _ ho,h⟩⟩)),fun hO=>?_,(hI.own _ h.own).1⟩
 obtain ⟨o',h3,h4⟩:=nM hO
 exact hd o ho (by rw [nG.inj hI h h4];exact h3)
theorem IU (hI:Inv C K T) {a:AV} {v:Value} (h:aC K T a v) (ht:tags a = []):aC (jg K π n) (Tc K T π ls) (ren (dH K.H π) (fun t=>t) a) v :=
 aC.ren (Ba (n:=n) hI (fun t=>t) (fun _=>False) (fun _ h=>h.elim)) (by simp [ht]) h
theorem Zb (hI:Inv C K T) {a:AV} {v:Value} (h:aQ K T a v) (ht:tags a = []):aQ (jg K π n) (Tc K T π ls) (ren (dH K.H π) (fun t=>t) a) v :=
 aQ.ren (Ba (n:=n) hI (fun t=>t) (fun _=>False) (fun _ h=>h.elim)) (by simp [ht]) h
theorem Us {H:Heap} {t o off len g:Nat} {a':AV} {y:fC} (h:dN H t (.sl o off len g) = some (a',y)) :
  ∃ ob p,live H o g = some ob∧¬ ob.ids = true∧jd ob.p off len = some p∧a' = .ro (if ob.z = 0∧ah ob.p = 0 then 0 else 2) p t∧y = ⟨[o],[ob.tg]⟩:=by
 simp only [dN] at h
 split at h
 ·rename_i ob hob
  split at h
  ·cases h
  ·rename_i jP
   cases hp:jd ob.p off len with
   | none=>rw [hp] at h;cases h
   | some p =>
    rw [hp] at h
    simp only [Option.map_some,Option.some.injEq,Prod.mk.injEq] at h
    exact ⟨ob,p,hob,jP,hp,h.1.symm,h.2.symm⟩
 ·cases h
theorem IV (hI:Inv C K T) {a a':AV} {v:Value} {y:fC} (hv:aQ K T a v) (h:dN K.H (i + 1) a = some (a',y)) (hc:Cv ls i y) (hd:Off π y) :
  aQ (jg K π n) (Tc K T π ls) (ren (dH K.H π) (fun t=>t) a') v:=by
 unfold dN at h
 split at h
 ·rename_i o off len g
  obtain ⟨ob,p,h1,h2,h3,rfl,rfl⟩:=Us (H:=K.H) (t:=i + 1) (by unfold dN;exact h)
  obtain ⟨h4,h5⟩:=bI.1 h1
  simp only [aQ] at hv
  obtain ⟨ad,cap,rfl,h6,h7⟩:=Dy.ro hI h1 h2 ((hv.2.2 ob h4).2 h5) h3
  simp only [ren,aQ,RV]
  refine ⟨ad,cap,rfl,h6,fun a ha hn=>?_⟩
  obtain ⟨h8,h9,h10,h11⟩:=h7 a ha hn
  exact ⟨h8,Ur hI hc hd (o:=o) (by simp) ⟨ob,h4,h10,h9.symm⟩,jy (w':=K.w) (fun b hb=>⟨Ef hI hc (by simp) hb,fun _ _ h=>h⟩) _ _ _ (fun _ _ h=>h) h11⟩
 ·simp only [Option.some.injEq,Prod.mk.injEq] at h
  obtain ⟨rfl,rfl⟩:=h
  simp only [ren,aQ] at hv ⊢
  rename_i c p t'
  have:=oC (w':=K.w) (N':=NT (jg K π n) (Tc K T π ls) (i + 1)) (fun b hb=>⟨Ef hI hc (t':=t') (by simp) hb,fun _ _ h=>h⟩) _ _ hv
  rw [RV] at this ⊢
  exact this
 ·simp only [aQ,RV] at hv
 ·split at h
  ·rename_i ht
   simp only [Option.some.injEq,Prod.mk.injEq] at h
   obtain ⟨rfl,rfl⟩:=h
   exact Zb hI hv (by simpa using ht)
  ·cases h
theorem Ut (hI:Inv C K T) {a a':AV} {v:Value} {y:fC} (hv:aH K T a v) (hn:nD a = true) (h:dN K.H (i + 1) a = some (a',y)) (hc:Cv ls i y) (hd:Off π y) :
  aC (jg K π n) (Tc K T π ls) (ren (dH K.H π) (fun t=>t) a') v:=by
 cases a
 case iW p j f t' =>
  simp only [dN,Option.some.injEq,Prod.mk.injEq] at h
  obtain ⟨rfl,rfl⟩:=h
  simp only [ren,aC,aH] at hv ⊢
  obtain ⟨b,off,h1,h2,h3,h4⟩:=hv
  have hm:=fun b (hb:NT K T t' b)=>Ef (π:=π) (n:=n) hI hc (t':=t') (by simp) hb
  exact ⟨b,off,h1,h2,hm b h3,jy (w':=K.w) (fun b hb=>⟨hm b hb,fun _ _ h=>h⟩) p _ _ (fun _ _ h=>h) h4⟩
 case agg p =>
  simp only [dN] at h
  split at h
  ·rename_i ht
   simp only [Option.some.injEq,Prod.mk.injEq] at h
   obtain ⟨rfl,rfl⟩:=h
   exact IU hI (aH.v hv) (by simpa using ht)
  ·cases h
 case fn f l =>
  simp only [dN] at h
  split at h
  ·rename_i ht
   simp only [Option.some.injEq,Prod.mk.injEq] at h
   obtain ⟨rfl,rfl⟩:=h
   exact IU hI (aH.v hv) (by simpa using ht)
  ·cases h
 case tup l=>simp [nD] at hn
 all_goals
  have hs:=IV (n:=n) hI (by simpa [aH] using hv) h hc hd
  have h1:=aH.s hs
  exact aH.v h1
theorem Bc {H:Heap} {t:Nat}:∀ {l l':List AV} {y:fC},gI H t l = some (l',y)→l'.length = l.length ∧
  ∀ (j:Nat) (a':AV),l'[j]? = some a'→∃ a x,l[j]? = some a∧dN H t a = some (a',x)∧(∀ o ∈ x.objs,o ∈ y.objs)∧∀ t ∈ x.tags,t ∈ y.tags
 | [],l',y,h=>by
  simp only [gI,Option.some.injEq,Prod.mk.injEq] at h
  obtain ⟨rfl,rfl⟩:=h
  simp
 | a :: r,l',y,h=>by
  simp only [gI] at h
  split at h
  ·rename_i a' x r' z h1 h2
   simp only [Option.some.injEq,Prod.mk.injEq] at h
   obtain ⟨rfl,rfl⟩:=h
   obtain ⟨h3,h4⟩:=Bc h2
   refine ⟨by simp [h3],fun j b hb=>?_⟩
   cases j with
   | zero =>
    simp only [List.getElem?_cons_zero,Option.some.injEq] at hb
    subst hb
    exact ⟨a,x,rfl,h1,fun o ho=>List.mem_append.2 (.inl ho),fun o ho=>List.mem_append.2 (.inl ho)⟩
   | succ j =>
    simp only [List.getElem?_cons_succ] at hb
    obtain ⟨c,z',h5,h6,h7,h8⟩:=h4 j b hb
    exact ⟨c,z',by simpa using h5,h6,fun o ho=>List.mem_append.2 (.inr (h7 o ho)),fun o ho=>List.mem_append.2 (.inr (h8 o ho))⟩
  ·cases h
theorem Cv.sub {y x:fC} (hc:Cv ls i y) (h1:∀ o ∈ x.objs,o ∈ y.objs) (h2:∀ t ∈ x.tags,t ∈ y.tags):Cv ls i x :=
 let ⟨z,h3,h4,h5⟩:=hc;⟨z,h3,fun o ho=>h4 o (h1 o ho),fun t ht=>h5 t (h2 t ht)⟩
theorem WX (hI:Inv C K T) {a a':AV} {v:Value} {y:fC} (hv:aC K T a v) (h:dS K.H (i + 1) a = some (a',y)) (hc:Cv ls i y) (hd:Off π y) :
  aC (jg K π n) (Tc K T π ls) (ren (dH K.H π) (fun t=>t) a') v:=by
 unfold dS at h
 split at h
 ·rename_i l
  cases hl:gI K.H (i + 1) l with
  | none=>rw [hl] at h;cases h
  | some z =>
   obtain ⟨l',z⟩:=z
   rw [hl] at h
   simp only [Option.map_some,Option.some.injEq,Prod.mk.injEq] at h
   obtain ⟨rfl,rfl⟩:=h
   obtain ⟨h1,h2⟩:=Bc hl
   simp only [aC,aH] at hv
   obtain ⟨cs,rfl,h3,h4⟩:=hv
   simp only [ren,aC,aH]
   refine ⟨cs,rfl,by simpa [aS,ah,aN,lY,h1] using h3,?_⟩
   simp only [iL,GP] at h4 ⊢
   intro j b hb
   rw [iK,List.getElem?_map] at hb
   cases hc':l'[j]? with
   | none=>rw [hc'] at hb;cases hb
   | some b' =>
    rw [hc'] at hb
    simp only [Option.map_some,Option.some.injEq] at hb
    subst hb
    obtain ⟨a,x,h5,h6,h7,h8⟩:=h2 j b' hc'
    obtain ⟨v,h9,h10,h11⟩:=h4 j a h5
    exact ⟨v,h9,h10,IV hI h11 h6 (hc.sub h7 h8) (fun o ho=>hd o (h7 o ho))⟩
 ·rename_i f l
  cases hl:gI K.H (i + 1) l with
  | none=>rw [hl] at h;cases h
  | some z =>
   obtain ⟨l',z⟩:=z
   rw [hl] at h
   simp only [Option.map_some,Option.some.injEq,Prod.mk.injEq] at h
   obtain ⟨rfl,rfl⟩:=h
   obtain ⟨h1,h2⟩:=Bc hl
   simp only [aC,aH] at hv
   obtain ⟨vs,rfl,h3,h4⟩:=hv
   simp only [ren,aC,aH]
   refine ⟨vs,rfl,by simpa [lY,h1] using h3,fun j b hb=>?_⟩
   rw [iK,List.getElem?_map] at hb
   cases hc':l'[j]? with
   | none=>rw [hc'] at hb;cases hb
   | some b' =>
    rw [hc'] at hb
    simp only [Option.map_some,Option.some.injEq] at hb
    subst hb
    obtain ⟨a,x,h5,h6,h7,h8⟩:=h2 j b' hc'
    obtain ⟨v,h9,h11⟩:=h4 j a h5
    exact ⟨v,h9,IV hI h11 h6 (hc.sub h7 h8) (fun o ho=>hd o (h7 o ho))⟩
 ·by_cases hn:nD a = true
  ·have h1:aH K T a v:=by cases a <;> first | exact hv | (simp [nD] at hn;done)
   exact Ut hI h1 hn h hc hd
  ·cases a <;> simp [nD] at hn
   case tup l =>
    simp only [dN] at h
    split at h
    ·rename_i ht
     simp only [Option.some.injEq,Prod.mk.injEq] at h
     obtain ⟨rfl,rfl⟩:=h
     exact IU hI hv (by simpa using ht)
    ·cases h
theorem CW (hI:Inv C K T) {f:Nat}:∀ {args:List AV} {vs:List Value} {as:List AV} {xs:List fC} {i:Nat},dY K T args vs→aG C f K.H i args = some (as,xs) →
  (∀ (j:Nat) (x:fC),xs[j]? = some x→ls[i + j]? = some x)→(∀ x ∈ xs,Off π x)→dY (jg K π n) (Tc K T π ls) (bn (dH K.H π) (fun t=>t) as) vs
 | [],vs,as,xs,i,ha,h,_,_=>by
  rw [ha.nil]
  simp only [aG,Option.some.injEq,Prod.mk.injEq] at h
  obtain ⟨rfl,rfl⟩:=h
  trivial
 | a :: r,vs,as,xs,i,ha,h,hls,hd=>by
  obtain ⟨v,s,rfl,hv,hr⟩:=ha.cons
  simp only [aG] at h
  split at h
  ·rename_i a' x r' y h1 h2
   simp only [Option.some.injEq,Prod.mk.injEq] at h
   obtain ⟨rfl,rfl⟩:=h
   have hd1:Off π x:=hd x (by simp)
   have ih:=CW hI hr h2 (fun j z hz=>by rw [show i + 1 + j = i + (j + 1) by omega];exact hls (j + 1) z (by simpa using hz)) (fun z hz=>hd z (by simp [hz]))
   refine ⟨?_,ih⟩
   split at h1
   ·simp only [Option.some.injEq,Prod.mk.injEq] at h1
    obtain ⟨rfl,rfl⟩:=h1
    exact IU hI hv rfl
   ·exact WX hI hv h1 ⟨x,hls 0 x rfl,fun _ h=>h,fun _ h=>h⟩ hd1
  ·cases h
theorem GU {C:Ctx} {K:Kx} {T:Nat→Nat→Prop}:∀ {l:List AV} {vs:List Value} {ts:List TypeId},dY K T l vs→dY K T (coerce C l ts) vs
 | [],vs,ts,h=>by simpa [coerce] using h
 | a :: r,vs,ts,h=>by
  obtain ⟨v,s,rfl,hv,hr⟩:=h.cons
  refine ⟨?_,GU hr⟩
  split
  ·split
   ·rename_i c t _ _ _ e _
    simp only [aC,aH,aQ,RV] at hv ⊢
    obtain ⟨ad,cap,h1,h2,_⟩:=hv
    have:ah (bT C e) = 0:=by unfold bT;split <;> rfl
    rw [this]
    exact ⟨ad,cap,h1,h2,fun _ _ h=>absurd rfl h⟩
   ·exact hv
  ·exact hv
end
end Go.AM
namespace Go.AM
theorem gQ {ρ:Nat→Nat→Option (Nat × Nat)} {τ:Nat→Nat} {H:Heap} {π:List Nat} {H1:Heap}:∀ (l:List Nat) (k:Nat) (B:Heap),(bW ρ τ H π H1 k l B).length = B.length
 | [],k,B=>rfl
 | o :: r,k,B=>by simp [bW,gQ r,upd]
theorem CX {ρ:Nat→Nat→Option (Nat × Nat)} {τ:Nat→Nat} {H:Heap} {π:List Nat} {H1:Heap}:∀ {l:List Nat} {k:Nat} {B:Heap} {o:Nat} {ob2:Obj},(bW ρ τ H π H1 k l B)[o]? = some (some ob2)→l.Nodup →
  (o ∉ l∧B[o]? = some (some ob2))∨∃ j ob1,l[j]? = some o∧aX H1 (k + j) = some ob1∧ob2 = aT ρ τ (fG H π (k + j) ob1.g) ob1
 | [],k,B,o,ob2,h,_=>.inl ⟨by simp,h⟩
 | a :: r,k,B,o,ob2,h,hn=>by
  simp only [bW] at h
  obtain ⟨hn1,hn2⟩:=List.nodup_cons.1 hn
  rcases CX h hn2 with ⟨h1,h2⟩ | ⟨j,ob1,h1,h2,h3⟩
  ·unfold upd at h2
   by_cases e:a = o
   ·subst e
    right
    rw [List.getElem?_set] at h2
    simp only [if_true] at h2
    split at h2
    ·simp only [Option.some.injEq,Option.map_eq_some_iff] at h2
     obtain ⟨ob1,h3,h4⟩:=h2
     exact ⟨0,ob1,rfl,by simpa using h3,by simpa using h4.symm⟩
    ·cases h2
   ·left
    rw [List.getElem?_set_ne e] at h2
    exact ⟨by simp [h1,Ne.symm e],h2⟩
  ·right
   refine ⟨j + 1,ob1,by simpa using h1,by rw [show k + (j + 1) = k + 1 + j by omega];exact h2,by rw [show k + (j + 1) = k + 1 + j by omega];exact h3⟩
theorem je:∀ (l:List Nat) (B:Heap),(strike l B).length = B.length
 | [],B=>rfl
 | o :: r,B=>by simp [strike,je r,upd]
theorem Eh:∀ {l:List Nat} {B:Heap} {o:Nat} {ob:Obj},(strike l B)[o]? = some (some ob)→o ∉ l∧B[o]? = some (some ob)
 | [],B,o,ob,h=>⟨by simp,h⟩
 | a :: r,B,o,ob,h=>by
  simp only [strike] at h
  obtain ⟨h1,h2⟩:=Eh h
  unfold upd at h2
  by_cases e:a = o
  ·subst e
   rw [List.getElem?_set] at h2
   simp only [if_true] at h2
   split at h2
   ·cases h2
   ·cases h2
  ·rw [List.getElem?_set_ne e] at h2
   exact ⟨by simp [h1,Ne.symm e],h2⟩
theorem Ei:∀ {l:List Nat} {o i:Nat},o ∉ l→idxOf l o i = none
 | [],_,_,_=>rfl
 | a :: r,o,i,h=>by
  simp only [List.mem_cons,not_or] at h
  simp [idxOf,Ne.symm h.1,Ei h.2]
theorem GV:∀ {l:List Nat} {o i k:Nat},l.Nodup→l[k]? = some o→idxOf l o i = some (i + k)
 | [],o,i,k,_,h=>by simp at h
 | a :: r,o,i,k,hn,h=>by
  obtain ⟨h1,h2⟩:=List.nodup_cons.1 hn
  cases k with
  | zero =>
   simp only [List.getElem?_cons_zero,Option.some.injEq] at h
   simp [idxOf,h]
  | succ k =>
   simp only [List.getElem?_cons_succ] at h
   have:a ≠ o:=fun e=>h1 (e ▸ List.mem_of_getElem? h)
   simp only [idxOf,this,if_false]
   rw [GV h2 h]
   congr 1
   omega
def qI (K:Kx) (π new:List Nat) (K1:Kx) (H2:Heap):Kx :=
 ⟨fun o=>if o < K.H.length then (match idxOf π o 0 with | some k=>K1.μ k | none=>K.μ o) else K1.μ (new.getD (o - K.H.length) 0),H2,K1.w⟩
def vU (ρ:Nat→Nat→Option (Nat × Nat)) (τ:Nat→Nat) (H:Heap) (π gone new:List Nat) (H1:Heap):Heap :=
 strike gone (bW ρ τ H π H1 0 π H) ++ new.map fun o=>(aX H1 o).map (aT ρ τ 0)
section
variable {C:Ctx} {K K1:Kx} {T:Nat→Nat→Prop} {π new gone:List Nat} {ls:List fC} {n:Nat} {ρ:Nat→Nat→Option (Nat × Nat)} {τ:Nat→Nat}
theorem Bd:(vU ρ τ K.H π gone new K1.H).length = K.H.length + new.length:=by
 simp [vU,je,gQ]
theorem nN (hnd:π.Nodup) {o:Nat} {ob2:Obj} (h:(qI K π new K1 (vU ρ τ K.H π gone new K1.H)).H[o]? = some (some ob2)) :
  (o < K.H.length∧o ∉ gone∧o ∉ π∧K.H[o]? = some (some ob2)∧(qI K π new K1 (vU ρ τ K.H π gone new K1.H)).μ o = K.μ o) ∨
  (∃ k ob1,o < K.H.length∧o ∉ gone∧π[k]? = some o∧K1.H[k]? = some (some ob1)∧ob2 = aT ρ τ (fG K.H π k ob1.g) ob1∧(qI K π new K1 (vU ρ τ K.H π gone new K1.H)).μ o = K1.μ k) ∨
  ∃ j k ob1,o = K.H.length + j∧new[j]? = some k∧K1.H[k]? = some (some ob1)∧ob2 = aT ρ τ 0 ob1∧(qI K π new K1 (vU ρ τ K.H π gone new K1.H)).μ o = K1.μ k:=by
 simp only [qI,vU] at h
 by_cases hlt:o < K.H.length
 ·rw [List.getElem?_append_left (by rw [je,gQ];exact hlt)] at h
  obtain ⟨h1,h2⟩:=Eh h
  rcases CX h2 hnd with ⟨h3,h4⟩ | ⟨j,ob1,h3,h4,h5⟩
  ·left
   exact ⟨hlt,h1,h3,h4,by simp only [qI,hlt,if_true,Ei h3]⟩
  ·right;left
   rw [Nat.zero_add] at h4 h5
   refine ⟨j,ob1,hlt,h1,h3,nK.1 h4,h5,?_⟩
   simp only [qI,hlt,if_true,GV (i:=0) hnd h3,Nat.zero_add]
 ·right;right
  rw [List.getElem?_append_right (by rw [je,gQ];omega)] at h
  rw [je,gQ,List.getElem?_map] at h
  cases hk:new[o - K.H.length]? with
  | none=>rw [hk] at h;cases h
  | some k =>
   rw [hk] at h
   simp only [Option.map_some,Option.some.injEq,Option.map_eq_some_iff] at h
   obtain ⟨ob1,h1,h2⟩:=h
   refine ⟨o - K.H.length,k,ob1,by omega,hk,nK.1 h1,h2.symm,?_⟩
   simp only [qI,hlt,if_false,List.getD_eq_getElem?_getD,hk,Option.getD_some]
theorem Bf (hnd:π.Nodup) {b:Nat} (h:Own (qI K π new K1 (vU ρ τ K.H π gone new K1.H)) b):(∃ o,o ∉ π∧o ∉ gone∧nG K o b)∨Own K1 b:=by
 obtain ⟨o,ob2,h1,h2,h3⟩:=h
 rcases nN hnd h1 with ⟨_,g2,g3,g4,g5⟩ | ⟨k,ob1,_,_,_,g4,rfl,g5⟩ | ⟨j,k,ob1,_,_,g4,rfl,g5⟩
 ·rw [g5] at h2 h3
  exact .inl ⟨o,g3,g2,ob2,g4,h2,h3⟩
 ·rw [g5] at h2 h3
  exact .inr ⟨k,ob1,g4,(Real.same (dB _ _ _ ob1)).1 h2,h3⟩
 ·rw [g5] at h2 h3
  exact .inr ⟨k,ob1,g4,(Real.same (dB _ _ _ ob1)).1 h2,h3⟩
theorem Kz (hI:Inv C K T) (hnd:π.Nodup) (hlive:∀ o ∈ π,∃ ob,K.H[o]? = some (some ob)) (hn:n + 1 < dG) (E:Evo (Tc K T π ls) π.length (jg K π (n + 1)) K1) :
  Evo T K.H.length K (qI K π new K1 (vU ρ τ K.H π gone new K1.H)) where
 lo:=Nat.le_refl _
 len:=by simp only [qI];rw [Bd];omega
 size:=E.size
 os:=E.os
 tape:=E.tape
 output:=E.output
 obj:=by
  intro o ho ob' h
  rcases nN hnd h with ⟨_,g2,g3,g4,g5⟩ | ⟨k,ob1,_,_,g3,g4,rfl,g5⟩ | ⟨j,k,ob1,g,_⟩
  ·exact ⟨ob',g4,Nat.le_refl _,fun _=>⟨g5,Same.refl _⟩⟩
  ·obtain ⟨ob,hob⟩:=hlive o (List.mem_of_getElem? g3)
   have hk:k < π.length:=(List.getElem?_eq_some_iff.1 g3).1
   obtain ⟨ob0,h1,h2,h3⟩:=E.obj k hk ob1 g4
   obtain ⟨o2,ob3,q1,q2,q3,q4⟩:=qy h1
   rw [g3] at q1
   simp only [Option.some.injEq] at q1
   subst q1
   rw [hob] at q2
   simp only [Option.some.injEq] at q2
   subst q2;subst q3
   have hg:fG K.H π k ob1.g = ob.g + (if ob1.g = 0 then 0 else 1):=by
    simp only [fG,g3,nK.2 hob]
   refine ⟨ob,hob,by simp only [aT,hg];omega,fun e=>?_⟩
   have e0:ob1.g = 0:=by
    simp only [aT,hg] at e
    by_cases h0:ob1.g = 0
    ·exact h0
    ·rw [if_neg h0] at e;omega
   obtain ⟨h4,h5⟩:=h3 (by simp only [aT];exact e0)
   rw [g5,h4,q4]
   exact ⟨rfl,(dB _ _ _ ob).trans (h5.trans (dB _ _ _ ob1))⟩
  ·omega
 own:=by
  intro b hb h
  rcases Bf hnd h with ⟨o,_,_,h⟩ | h
  ·exact h.own
  ·obtain ⟨o,_,h⟩:=nM (E.own b hb h)
   exact h.own
 cells:=by
  intro b hb ho off
  exact E.cells b hb (fun h=>let ⟨_,_,h⟩:=nM h;ho h.own) off
 exact:=by
  intro b hb ho ht
  refine E.exact b hb (fun h=>let ⟨_,_,h⟩:=nM h;ho h.own) ?_
  rintro (h | ⟨o,_,h⟩ | ⟨h,_⟩ | ⟨i,x,h,_⟩)
  ·omega
  ·exact ho h.own
  ·simp [dG] at h
  ·omega
end
end Go.AM
namespace Go.AM
section
variable {C:Ctx} {K K1:Kx} {T:Nat→Nat→Prop} {π new gone:List Nat} {ls:List fC} {n:Nat} {τ:Nat→Nat}
theorem KA (hI:Inv C K T) (hnd:π.Nodup) (hlive:∀ o ∈ π,∃ ob,K.H[o]? = some (some ob)) (hn:n + 1 < dG) (hls:ls.length = n + 1)
  (hI1:Inv C K1 (Tc K T π ls)) (E:Evo (Tc K T π ls) π.length (jg K π (n + 1)) K1) {used:List Nat}
  (hu:∀ t ∈ used,(dU ls t).isSome = true) (hg:∀ t ∈ used,∀ o ∈ dM ls t,o ∈ gone) :
  Ren (bQ K.H π new K1.H) (bV ls) K1 (qI K π new K1 (vU (bQ K.H π new K1.H) (bV ls) K.H π gone new K1.H)) (Tc K T π ls) T (fun t=>t ∈ used) where
 w:=rfl
 h:=by
  intro o g o' g' h
  unfold bQ at h
  split at h
  ·rename_i ob hob
   obtain ⟨ho,hog⟩:=bI.1 hob
   split at h
   ·rename_i hlt
    cases hp:π[o]? with
    | none=>rw [hp] at h;cases h
    | some x =>
     rw [hp] at h
     simp only [Option.map_some,Option.some.injEq,Prod.mk.injEq] at h
     obtain ⟨rfl,rfl⟩:=h
     obtain ⟨obx,af8⟩:=hlive x (List.mem_of_getElem? hp)
     have hxl:x < K.H.length:=(List.getElem?_eq_some_iff.1 af8).1
     refine ⟨by simp only [qI];rw [Bd];omega,ob,hob,fun ob' h=>?_⟩
     rcases nN hnd h with ⟨_,_,g3,_⟩ | ⟨k,ob1,_,_,g3,g4,rfl,g5⟩ | ⟨j,k,ob1,g,_⟩
     ·exact absurd (List.mem_of_getElem? hp) g3
     ·have e1:=List.getElem?_eq_some_iff.1 g3
      have e2:=List.getElem?_eq_some_iff.1 hp
      have:k = o:=(List.getElem_inj hnd).1 (e1.2.trans e2.2.symm)
      subst this
      rw [ho] at g4
      simp only [Option.some.injEq] at g4
      subst g4
      simp only [aT,hog,Nat.le_refl,true_and]
      exact fun _=>⟨g5,dB _ _ 0 ob⟩
     ·omega
   ·rename_i hlt
    cases hi:idxOf new o K.H.length with
    | none=>rw [hi] at h;cases h
    | some k =>
     rw [hi] at h
     simp only [Option.map_some,Option.some.injEq,Prod.mk.injEq] at h
     obtain ⟨rfl,rfl⟩:=h
     obtain ⟨h1,h2⟩:=uz hi
     have h3:=(List.getElem?_eq_some_iff.1 h2).1
     refine ⟨by simp only [qI];rw [Bd];omega,ob,hob,fun ob' h=>?_⟩
     rcases nN hnd h with ⟨q1,_⟩ | ⟨k,ob1,q1,_⟩ | ⟨j,k',ob1,g,g3,g4,rfl,g5⟩
     ·omega
     ·omega
     ·have:j = k - K.H.length:=by omega
      subst this
      rw [h2] at g3
      simp only [Option.some.injEq] at g3
      subst g3
      rw [ho] at g4
      simp only [Option.some.injEq] at g4
      subst g4
      exact ⟨Nat.zero_le _,fun _=>⟨g5,dB _ _ 0 ob⟩⟩
  ·cases h
 t:=by
  intro t ht b hb
  obtain ⟨h1,h2,h3⟩:=hb
  have hs:=hu t ht
  refine ⟨?_,fun hO=>?_,h3⟩
  ·rcases h1 with h | ⟨o,_,h⟩ | ⟨h,_⟩ | ⟨i,x,h,hx,hb⟩
   ·exact hI.mono _ _ (hI.new b h)
   ·exact hI.mono _ _ (hI.own b h.own).2
   ·subst h
    have:ls[dG - 1]? = none:=List.getElem?_eq_none (by rw [hls];omega)
    rw [dU,if_neg (by simp [dG]),this] at hs
    cases hs
   ·subst h
    simp only [dU,Nat.add_one_ne_zero,if_false,Nat.add_sub_cancel,hx] at hs
    obtain ⟨s,hs⟩:=Option.isSome_iff_exists.1 hs
    have e:bV ls (i + 1) = s:=by simp [bV,dU,hx,hs]
    rw [e]
    rcases hb with ⟨o,_,h⟩ | ⟨t',ht',h⟩
    ·exact hI.mono _ _ (hI.own b h.own).2
    ·exact rJ hI.mono hs t' ht' b h.1
  ·rcases Bf hnd hO with ⟨o',g1,g2,g3⟩ | h
   ·rcases h1 with h | ⟨o,ho,h⟩ | ⟨h,_⟩ | ⟨i,x,h,hx,hb⟩
    ·exact absurd (hI.own b g3.own).1 (by omega)
    ·exact g1 (by rw [nG.inj hI g3 h];exact ho)
    ·subst h
     have:ls[dG - 1]? = none:=List.getElem?_eq_none (by rw [hls];omega)
     rw [dU,if_neg (by simp [dG]),this] at hs
     cases hs
    ·subst h
     rcases hb with ⟨o,ho,h⟩ | ⟨t',ht',h⟩
     ·refine g2 (hg _ ht o' ?_)
      rw [nG.inj hI g3 h]
      simp only [dM,Nat.add_one_ne_zero,if_false,Nat.add_sub_cancel,hx]
      exact ho
     ·exact h.2.1 g3.own
   ·exact h2 h
theorem Uu (hI:Inv C K T) (hnd:π.Nodup) (hlive:∀ o ∈ π,∃ ob,K.H[o]? = some (some ob)) (hn:n + 1 < dG) (hls:ls.length = n + 1)
  (hI1:Inv C K1 (Tc K T π ls)) (E:Evo (Tc K T π ls) π.length (jg K π (n + 1)) K1) {used:List Nat}
  (hu:∀ t ∈ used,(dU ls t).isSome = true) (hg:∀ t ∈ used,∀ o ∈ dM ls t,o ∈ gone) (hnn:new.Nodup) (hnew:∀ k ∈ new,π.length≤k)
  (hu1:∀ t ∈ cu ((List.range π.length).map (aX K1.H)),t ∈ used) (hu2:∀ t ∈ cu (new.map (aX K1.H)),t ∈ used) :
  Inv C (qI K π new K1 (vU (bQ K.H π new K1.H) (bV ls) K.H π gone new K1.H)) T:=by
 have hE:=Kz (new:=new) (gone:=gone) (ρ:=bQ K.H π new K1.H) (τ:=bV ls) hI hnd hlive hn E
 have hR:=KA (new:=new) hI hnd hlive hn hls hI1 E hu hg
 -- a block of K that stays: untouched
 have YS:∀ {o b:Nat},nG K o b→o ∉ π→¬ Own (jg K π (n + 1)) b∧¬ Tc K T π ls 0 b:=by
  intro o b h ho
  refine ⟨fun h'=>?_,?_⟩
  ·obtain ⟨o',h1,h2⟩:=nM h'
   exact ho (by rw [nG.inj hI h h2];exact h1)
  ·rintro (h' | ⟨o',h1,h2⟩ | ⟨h',_⟩ | ⟨i,x,h',_⟩)
   ·exact absurd (hI.own b h.own).1 (by omega)
   ·exact ho (by rw [nG.inj hI h h2];exact h1)
   ·simp [dG] at h'
   ·omega
 have hsep:∀ {o b:Nat},nG K o b→o ∉ π→¬ Own K1 b:=fun h ho h'=>(YS h ho).1 (E.own _ (hI.own _ h.own).1 h')
 constructor
 ·-- obj
  intro o ob2 h
  rcases nN hnd h with ⟨_,g2,g3,g4,g5⟩ | ⟨k,ob1,_,_,g3,g4,rfl,g5⟩ | ⟨j,k,ob1,_,g3,g4,rfl,g5⟩
  ·refine fU.evo hE (Nat.le_refl _) g5 (fun hr=>?_) (hI.obj o ob2 g4)
   have hb:nG K o (K.μ o).blk:=⟨ob2,g4,hr,rfl⟩
   obtain ⟨h1,h2⟩:=YS hb g3
   exact E.exact _ (hI.own _ hb.own).1 h1 h2
  ·refine fU.ren hR (fun t ht=>hu1 t (oD (List.mem_map.2 ⟨k,?_,nK.2 g4⟩) t ht)) g5 (hI1.obj k ob1 g4)
   exact List.mem_range.2 (List.getElem?_eq_some_iff.1 g3).1
  ·exact fU.ren hR (fun t ht=>hu2 t (oD (List.mem_map.2 ⟨k,List.mem_of_getElem? g3,nK.2 g4⟩) t ht)) g5 (hI1.obj k ob1 g4)
 ·-- inj
  intro o o' ob ob' h h' hr hr' hb
  rcases nN hnd h with ⟨_,g2,g3,g4,g5⟩ | ⟨k,ob1,_,_,g3,g4,rfl,g5⟩ | ⟨j,k,ob1,gj,g3,g4,rfl,g5⟩ <;>
  rcases nN hnd h' with ⟨_,g2',g3',g4',g5'⟩ | ⟨k',Dz,_,_,g3',g4',rfl,g5'⟩ | ⟨j',k',Dz,gj',g3',g4',rfl,g5'⟩ <;>
  rw [g5] at hr hb <;> rw [g5'] at hr' hb
  ·exact hI.inj o o' ob ob' g4 g4' hr hr' hb
  ·exact absurd ⟨k',Dz,g4',(Real.same (dB _ _ _ _)).1 hr',rfl⟩ (hsep ⟨ob,g4,hr,hb⟩ g3)
  ·exact absurd ⟨k',Dz,g4',(Real.same (dB _ _ _ _)).1 hr',rfl⟩ (hsep ⟨ob,g4,hr,hb⟩ g3)
  ·exact absurd ⟨k,ob1,g4,(Real.same (dB _ _ _ _)).1 hr,rfl⟩ (hsep ⟨ob',g4',hr',hb.symm⟩ g3')
  ·have:=hI1.inj k k' ob1 Dz g4 g4' ((Real.same (dB _ _ _ _)).1 hr) ((Real.same (dB _ _ _ _)).1 hr') hb
   subst this
   rw [g3] at g3'
   exact Option.some.inj g3'
  ·have:=hI1.inj k k' ob1 Dz g4 g4' ((Real.same (dB _ _ _ _)).1 hr) ((Real.same (dB _ _ _ _)).1 hr') hb
   subst this
   have h1:=(List.getElem?_eq_some_iff.1 g3).1
   have h2:=hnew k (List.mem_of_getElem? g3')
   omega
  ·exact absurd ⟨k,ob1,g4,(Real.same (dB _ _ _ _)).1 hr,rfl⟩ (hsep ⟨ob',g4',hr',hb.symm⟩ g3')
  ·have:=hI1.inj k k' ob1 Dz g4 g4' ((Real.same (dB _ _ _ _)).1 hr) ((Real.same (dB _ _ _ _)).1 hr') hb
   subst this
   have h1:=(List.getElem?_eq_some_iff.1 g3').1
   have h2:=hnew k (List.mem_of_getElem? g3)
   omega
  ·have:=hI1.inj k k' ob1 Dz g4 g4' ((Real.same (dB _ _ _ _)).1 hr) ((Real.same (dB _ _ _ _)).1 hr') hb
   subst this
   have e1:=List.getElem?_eq_some_iff.1 g3
   have e2:=List.getElem?_eq_some_iff.1 g3'
   have:j = j':=(List.getElem_inj hnn).1 (e1.2.trans e2.2.symm)
   omega
 ·-- own
  intro b h
  rcases Bf hnd h with ⟨o,_,_,h⟩ | h
  ·exact ⟨Nat.lt_of_lt_of_le (hI.own b h.own).1 E.size,(hI.own b h.own).2⟩
  ·obtain ⟨h1,h2⟩:=hI1.own b h
   refine ⟨h1,?_⟩
   rcases h2 with h | ⟨o,_,h⟩ | ⟨h,_⟩ | ⟨i,x,h,_⟩
   ·exact hI.new b h
   ·exact (hI.own b h.own).2
   ·simp [dG] at h
   ·omega
 ·exact fun b hb=>hI.new b (Nat.le_trans E.size hb)
 ·exact hI.mono
 ·intro g p hg
  obtain ⟨h1,h2,h3⟩:=hI.glob g p hg
  have h4:=NT.evo hE h2
  exact ⟨h1,h4.1,jy (fun b hb=>NT.evo hE hb) p _ _ (fun j u hu=>h4.2 _ _ hu) h3⟩
end
def Gives (C:Ctx) (T:Nat→Nat→Prop) (K:Kx) (x:AV) (H':Heap):Ending→World→Prop
 | .returned v,w'=>∃ μ',Inv C ⟨μ',H',w'⟩ T∧Evo T K.H.length K ⟨μ',H',w'⟩∧aC ⟨μ',H',w'⟩ T x v
 | _,_=>False
def DC (C:Ctx) (cf:Cf):Prop:=∀ f args H x H',cf f args H = some (x,H')→∀ K T (vs:Array Value),K.H = H→Inv C K T→dY K T args vs.toList →
 Calls C.P f vs K.w (Gives C T K x H')
theorem iF:∀ {a b:List Nat},disjoint a b = true ↔ ∀ o ∈ a,o ∉ b
 | [],b=>by simp [disjoint]
 | x :: r,b=>by simp [disjoint,iF (a:=r)]
theorem qh {C:Ctx} {f:Nat} {H:Heap}:∀ {args:List AV} {i:Nat} {as:List AV} {xs:List fC},aG C f H i args = some (as,xs)→xs.length = as.length
 | [],i,as,xs,h=>by
  simp only [aG,Option.some.injEq,Prod.mk.injEq] at h
  obtain ⟨rfl,rfl⟩:=h
  rfl
 | a :: r,i,as,xs,h=>by
  simp only [aG] at h
  split at h
  ·rename_i h2
   simp only [Option.some.injEq,Prod.mk.injEq] at h
   obtain ⟨rfl,rfl⟩:=h
   simp [qh h2]
  ·cases h
theorem RH {C:Ctx} {body:Cf} (hb:DC C body):DC C (jI C body):=by
 intro f args H x H' h K T vs hK hI ha
 subst hK
 unfold jI at h
 split at h
 ·cases h
 ·rename_i as xs hl
  simp only at h
  obtain ⟨hnd,hlive⟩:=tu K.H aB (aA as) [] List.nodup_nil (by simp)
  generalize reach K.H aB (aA as) [] = π at h hnd hlive
  split at h
  ·rename_i hc
   simp only [Bool.and_eq_true,decide_eq_true_eq,List.all_eq_true] at hc
   obtain ⟨hdis,hn⟩:=hc
   have hlen:=qh hl
   split at h
   ·cases h
   ·rename_i v H1 hbody
    generalize hls:xs ++ [⟨[],ay (π.map (aX K.H))⟩] = ls at h
    have aaU:ls.length = as.length + 1:=by rw [← hls];simp [hlen]
    have hother:ls[as.length]? = some ⟨[],ay (π.map (aX K.H))⟩:=by rw [← hls,← hlen];simp
    have hI0:=RG hI hnd hn hother
    have hargs:dY (jg K π (as.length + 1)) (Tc K T π ls) (coerce C (bn (dH K.H π) (fun t=>t) as) (aJ C f)) vs.toList:=by
     refine GU (CW hI ha hl (fun j y hy=>?_) (fun y hy=>iF.1 (hdis y hy)))
     rw [← hls,Nat.zero_add]
     rw [List.getElem?_append_left (List.getElem?_eq_some_iff.1 hy).1]
     exact hy
    have Bg:=hb f _ _ v H1 hbody (jg K π (as.length + 1)) (Tc K T π ls) vs rfl hI0 hargs
    refine Calls.mono Bg fun e w' he=>?_
    cases e with
    | panicked c=>exact he
    | outgrown=>exact he
    | returned u =>
     obtain ⟨μ1,hI1,E,hv⟩:=he
     have hE:Evo (Tc K T π ls) π.length (jg K π (as.length + 1)) ⟨μ1,H1,w'⟩:=by
      have:(jg K π (as.length + 1)).H.length = π.length:=by simp [jg]
      rw [this] at E
      exact E
     simp only [wrap] at h
     obtain ⟨hnd1,_⟩:=tu H1 aB (List.range π.length ++ ids v) [] List.nodup_nil (by simp)
     generalize reach H1 aB (List.range π.length ++ ids v) [] = Kr at h hnd1
     split at h
     ·rename_i hu
      simp only [List.all_eq_true] at hu
      simp only [Option.some.injEq,Prod.mk.injEq] at h
      obtain ⟨rfl,rfl⟩:=h
      have hsub:∀ t ∈ (tq v ++ cu ((List.range π.length).map (aX H1)) ++ cu ((Kr.filter fun o=>π.length≤o).map (aX H1))),t ∈ (tags v ++ ay ((List.range π.length).map (aX H1)) ++ ay ((Kr.filter fun o=>π.length≤o).map (aX H1))):=by
       intro t ht
       simp only [List.mem_append] at ht ⊢
       exact ht.imp (fun h=>h.imp GR oG) oG
      have hu':=fun t ht=>hu t (hsub t ht)
      have hg:∀ t ∈ (tq v ++ cu ((List.range π.length).map (aX H1)) ++ cu ((Kr.filter fun o=>π.length≤o).map (aX H1))),∀ o ∈ dM ls t,
        o ∈ ((tags v ++ ay ((List.range π.length).map (aX H1)) ++ ay ((Kr.filter fun o=>π.length≤o).map (aX H1))).flatMap (dM ls)).filter fun o=>((tq v ++ cu ((List.range π.length).map (aX H1)) ++ cu ((Kr.filter fun o=>π.length≤o).map (aX H1))).flatMap (dM ls)).contains o :=
       fun t ht o ho=>List.mem_filter.2 ⟨List.mem_flatMap.2 ⟨t,hsub t ht,ho⟩,List.contains_iff_mem.2 (List.mem_flatMap.2 ⟨t,ht,ho⟩)⟩
      have hR:=KA (new:=Kr.filter fun o=>π.length≤o) hI hnd hlive hn aaU hI1 hE hu' hg
      have hI2:=Uu (new:=Kr.filter fun o=>π.length≤o) hI hnd hlive hn aaU hI1 hE hu' hg (hnd1.filter _) (fun k hk=>by simpa using (List.mem_filter.1 hk).2)
       (fun t ht=>by simp only [List.mem_append];exact .inl (.inr ht)) (fun t ht=>by simp only [List.mem_append];exact .inr ht)
      have hE2:=Kz (new:=Kr.filter fun o=>π.length≤o) (gone:=((tags v ++ ay ((List.range π.length).map (aX H1)) ++ ay ((Kr.filter fun o=>π.length≤o).map (aX H1))).flatMap (dM ls)).filter fun o=>((tq v ++ cu ((List.range π.length).map (aX H1)) ++ cu ((Kr.filter fun o=>π.length≤o).map (aX H1))).flatMap (dM ls)).contains o)
       (ρ:=bQ K.H π (Kr.filter fun o=>π.length≤o) H1) (τ:=bV ls) hI hnd hlive hn hE
      exact ⟨_,hI2,hE2,aC.WV hR (fun t ht=>by simp only [List.mem_append];exact .inl (.inl ht)) hv⟩
     ·cases h
  ·cases h
end Go.AM
namespace Go.AM
section
variable {C:Ctx} {cf:Cf}
def hd:AV→Option Nat
 | .ptr o _ _ _=>some o
 | .sl o _ _ _=>some o
 | .map o _=>some o
 | _=>none
theorem Uw {a:AV} {o:Nat} (h:hd a = some o):o ∈ ids a:=by
 cases a <;> simp only [hd,reduceCtorEq,Option.some.injEq] at h <;> simp [ids,h]
theorem iM {H H2:Heap} {o:Nat} (h:H2[o]? = H[o]?) (g:Nat):live H2 o g = live H o g:=by
 unfold live;rw [h]
theorem Ej (v:Value):ids (jJ v) = []:=by
 unfold jJ;split <;> simp [ids,aA]
theorem l9:∀ {l:List AV},aA l = [] ↔ ∀ a ∈ l,ids a = []
 | []=>by simp [aA]
 | a :: r=>by simp [aA,l9 (l:=r)]
theorem yC {e:Nat}:∀ {n:Nat} {l:List AV},aA l = []→aA (chunks e n l) = []
 | 0,l,h=>rfl
 | n + 1,l,h=>by
  have h':=l9.1 h
  simp only [chunks,aA,ids,List.append_eq_nil_iff]
  exact ⟨l9.2 fun a ha=>h' a (List.mem_of_mem_take ha),yC (l9.2 fun a ha=>h' a (List.mem_of_mem_drop ha))⟩
theorem RI {t:TypeId} {l:List AV} {p:AV} (hl:aA l = []) (h:mg C t l = some p):ids p = []:=by
 unfold mg at h
 split at h
 ·split at h
  ·simp only [Option.map_eq_some_iff] at h;obtain ⟨_,_,rfl⟩:=h;rfl
  ·simp only [Option.map_eq_some_iff] at h;obtain ⟨_,_,rfl⟩:=h;rfl
  ·split at h
   ·simp only [Option.some.injEq] at h;subst h;exact yC hl
   ·cases h
  ·split at h
   ·simp only [Option.some.injEq] at h;subst h;exact yC hl
   ·cases h
  ·simp only [Option.some.injEq] at h;subst h;exact hl
 ·simp only [Option.some.injEq] at h;subst h;exact hl
theorem GX (t:TypeId) (v:Value):ids (Em C t v) = []:=by
 unfold Em
 split
 ·rename_i cs
  split
  ·split
   ·rename_i p hp
    have:aA (cs.toList.map jJ) = []:=l9.2 fun a ha=>by
     obtain ⟨v,_,rfl⟩:=List.mem_map.1 ha
     exact Ej v
    simp only [ids]
    exact RI this hp
   ·rfl
  ·rfl
 ·exact Ej v
theorem GY {fr:Frame} {t:TypeId} {x:Operand} {o:Nat} (h:o ∈ ids (fJ C fr t x)):o ∈ ids (aF C fr x):=by
 cases x <;> simp only [fJ] at h <;> try exact h
 rw [GX] at h
 cases h
theorem uF {fr:Frame} {o:Oper} {x:Operand} (hx:x ∈ o.op.operands) {y:Nat} (hy:y ∈ ids (aF C fr x)):y ∈ aA (iR C fr o) :=
 tC (List.mem_map.2 ⟨x,by simpa using hx,rfl⟩) y hy
-- quiet operations
theorem CY {H H2:Heap} {t:TypeId} {x:AV} (h:∀ o,hd x = some o→H2[o]? = H[o]?):isNil C H2 t x = isNil C H t x:=by
 unfold isNil
 split <;> first | rfl | (rw [iM (h _ rfl)])
theorem RJ {H H2:Heap} {t:TypeId} {x y:AV} {xo yo:Operand} (h1:∀ o,hd x = some o→H2[o]? = H[o]?) (h2:∀ o,hd y = some o→H2[o]? = H[o]?):eqV C H2 t x y xo yo = eqV C H t x y xo yo:=by
 unfold eqV
 rw [CY h1,CY h2]
theorem Oa {H H2:Heap} {op:BinOp} {t:TypeId} {x y:AV} {xo yo:Operand} (h1:∀ o,hd x = some o→H2[o]? = H[o]?) (h2:∀ o,hd y = some o→H2[o]? = H[o]?):Gn C H2 op t x y xo yo = Gn C H op t x y xo yo:=by
 unfold Gn
 rw [RJ h1 h2]
theorem IY {H H2:Heap} {x:AV} (h:∀ o,hd x = some o→H2[o]? = H[o]?):qJ H2 x = qJ H x:=by
 unfold qJ
 split <;> first | rfl | (rw [iM (h _ rfl)])
theorem KC {H H2:Heap} {t:TypeId} {x:AV} (h:∀ o,hd x = some o→H2[o]? = H[o]?):vC C H2 t x = vC C H t x:=by
 unfold vC
 split
 ·rfl
 ·split <;> first | rfl | (rw [iM (h _ rfl)])
theorem IZ {H H2:Heap} {t:TypeId} {x:AV} {lo hi:Option AV} (h:∀ o,hd x = some o→H2[o]? = H[o]?):qK C H2 t x lo hi = qK C H t x lo hi:=by
 unfold qK
 split <;> first | rfl | (rw [iM (h _ rfl)])
theorem Bh {H H2:Heap} {t:TypeId} {x:AV} {n:Nat} (h:∀ o,hd x = some o→H2[o]? = H[o]?):bD C H2 t x n = bD C H t x n:=by
 unfold bD
 split
 ·rfl
 ·split
  ·rfl
  ·split <;> first | rfl | (rw [iM (h _ rfl)])
theorem Bj {H H2:Heap} {t:TypeId} {x ix:AV} (h:∀ o,hd x = some o→H2[o]? = H[o]?):kU C H2 t x ix = kU C H t x ix:=by
 unfold kU
 split
 ·split <;> first | rfl | (rw [iM (h _ rfl)])
 ·rfl
theorem Gp {H H2:Heap} {t:TypeId} {x k:AV} {ok:Bool} (h:∀ o,hd x = some o→H2[o]? = H[o]?):kR C H2 t x k ok = kR C H t x k ok:=by
 unfold kR
 cases x <;> first | rfl | (rename_i o g;simp only [iM (h o rfl)])
theorem Ob {H H2:Heap} {t:TypeId} {x:AV} (h:∀ o,hd x = some o→H2[o]? = H[o]?):lenV C H2 t x = lenV C H t x:=by
 unfold lenV
 split <;> first | rfl | (rw [iM (h _ rfl)])
theorem Oc {H H2:Heap} {t:TypeId} {x:AV} (h:∀ o,hd x = some o→H2[o]? = H[o]?):KD C H2 t x = KD C H t x:=by
 unfold KD
 split <;> first | rfl | (rw [iM (h _ rfl)])
theorem qL {m m':Option AV} {H H2:Heap} {v:AV} {H':Heap} (e:m' = m) (h:(m.map fun v=>(v,H)) = some (v,H')):(m'.map fun v=>(v,H2)) = some (v,H2):=by
 subst e
 cases m' with
 | none=>cases h
 | some y =>
  simp only [Option.map_some,Option.some.injEq,Prod.mk.injEq] at h
  rw [h.1]
  rfl
theorem Ux {H H2 H':Heap} {s d:TypeId} {x v:AV} (hx:∀ o,hd x = some o→H2[o]? = H[o]?) (h:vF C H s d x = some (v,H')):vF C H2 s d x = some (v,H2):=by
 unfold vF at h ⊢
 rw [IY hx]
 by_cases hs:okT C s = false
 ·rw [if_pos hs] at h;cases h
 rw [if_neg hs] at h ⊢
 generalize und C d = D at h ⊢
 generalize qJ H x = R at h ⊢
 generalize und C s = S at h ⊢
 have:∀ z:AV,some (z,H) = some (v,H')→some (z,H2) = some (v,H2):=fun z hz=>by
  simp only [Option.some.injEq,Prod.mk.injEq] at hz
  rw [hz.1]
 repeat' (split at h)
 all_goals first
  | (cases h;done)
  | exact this _ h
  | (rename_i hc;rw [if_pos hc];exact this _ h)
  | (rename_i hc _ _;rw [if_pos hc];exact this _ h)
  | (rename_i hc _;rw [if_pos hc];exact this _ h)
theorem Uy {fr:Frame} {H H' H2:Heap} {o:Oper} {v:AV} (hq:jA C o = true) (hf:lD C o = false) (h:step C cf fr H o = some (v,H')) (hx:∀ x ∈ aA (iR C fr o),H2[x]? = H[x]?) :
    step C cf fr H2 o = some (v,H2):=by
  have hO:∀ y,y ∈ o.op.operands→∀ x,hd (aF C fr y) = some x→H2[x]? = H[x]?:=fun y hy x h=>hx x (uF hy (Uw h))
  have hT:∀ t y,y ∈ o.op.operands→∀ x,hd (fJ C fr t y) = some x→H2[x]? = H[x]?:=fun t y hy x h=>hx x (uF hy (GY (Uw h)))
  obtain ⟨dst,op,type,pos,after,guard⟩:=o
  cases op <;> simp only [jA] at hq <;> try exact absurd hq (by simpa using hf)
  all_goals simp only [Op.operands] at hO hT
  all_goals simp only [step] at h ⊢
  case buildSlice t n ps =>
    cases hu:und C t <;> rw [hu] at hq <;> simp only [Bool.false_eq_true] at hq
    case slice e =>
      unfold dA at h ⊢
      simp only [hu,hq,if_true] at h ⊢
      split at h
      · rename_i hc
        rw [if_pos hc]
        split at h
        · cases h
        · split at h
          · rename_i hl
            rw [if_pos hl]
            exact qL rfl h
          · cases h
      · cases h
  case load t x=>exact qL (KC (hO x (by simp))) h
  case nilCheck x =>
    split at h
    · rename_i o i f g he
      rw [iM (hO x (by simp) o (by rw [he];rfl))]
      split at h
      · simp only [Option.some.injEq,Prod.mk.injEq] at h;rw [h.1]
      · cases h
    · simp only [Option.some.injEq,Prod.mk.injEq] at h;rw [h.1]
    · cases h
  case binOp op t x y ne=>exact qL (Oa (hT t x (by simp)) (hT t y (by simp))) h
  case convert s d x=>exact Ux (hT s x (by simp)) h
  case slice t x lo hi mx =>
    split at h
    · rename_i hm
      rw [if_pos hm]
      exact qL (IZ (hT t x (by simp))) h
    · cases h
  case fieldAddr s x n=>exact qL (Bh (hO x (by simp))) h
  case indexAddr t x ix=>exact qL (Bj (hO x (by simp))) h
  case lookup t x k ok=>exact qL (Gp (hO x (by simp))) h
  case call c =>
    cases hc:c.callee with
    | builtin b =>
      rw [hc] at hq
      have hA:∀ (l:List Operand) (ts:List TypeId),(∀ y ∈ l,y ∈ c.args)→∀ a ∈ dV C fr l ts,∀ x,hd a = some x→H2[x]? = H[x]?:=by
        intro l
        induction l with
        | nil=>intro ts _ a ha;simp [dV] at ha
        | cons y r ih =>
          intro ts hl a ha x hx'
          simp only [dV,List.mem_cons] at ha
          have hy:y ∈ (Call.operands c):=by
            simp only [Call.operands,hc]
            exact Array.mem_append.2 (.inr (hl y (by simp)))
          rcases ha with rfl | ha
          · cases ts with
            | nil=>exact hO y hy x hx'
            | cons t ts=>exact hT t y hy x hx'
          · exact ih _ (fun z hz=>hl z (by simp [hz])) a ha x hx'
      have hA':=hA c.args.toList c.argTypes.toList (fun y hy=>Array.mem_toList_iff.1 hy)
      simp only [tH,hc] at h ⊢
      generalize dV C fr c.args.toList c.argTypes.toList = args at h hA' ⊢
      cases b <;> simp only [Bool.false_eq_true] at hq
      all_goals
        cases hts:c.argTypes.toList with
        | nil=>rw [hts] at h;simp [jQ] at h
        | cons t ts =>
          rw [hts] at h
          cases args with
          | nil=>simp [jQ] at h
          | cons a r =>
            simp only [jQ] at h ⊢
            first
            | (rw [Ob (H:=H) (hA' a (by simp))]
               cases hm:lenV C H t a with
               | none=>rw [hm] at h;cases h
               | some z =>
                 rw [hm] at h
                 simp only [Option.map_some,Option.some.injEq,Prod.mk.injEq] at h
                 rw [← h.1];rfl)
            | (rw [Oc (H:=H) (hA' a (by simp))]
               cases hm:KD C H t a with
               | none=>rw [hm] at h;cases h
               | some z =>
                 rw [hm] at h
                 simp only [Option.map_some,Option.some.injEq,Prod.mk.injEq] at h
                 rw [← h.1];rfl)
    | value x=>rw [hc] at hq;simp at hq
    | invoke r n=>rw [hc] at hq;simp at hq
-- what is turned
def Only (l:List Nat) (H H':Heap):Prop:=H.length≤H'.length∧∀ x,x < H.length→x ∉ l→H'[x]? = H[x]?
theorem Only.refl (l:List Nat) (H:Heap):Only l H H:=⟨Nat.le_refl _,fun _ _ _=>rfl⟩
theorem Only.trans {l:List Nat} {A B D:Heap} (h:Only l A B) (k:Only l B D):Only l A D :=
 ⟨Nat.le_trans h.1 k.1,fun x hx hl=>(k.2 x (Nat.lt_of_lt_of_le hx h.1) hl).trans (h.2 x hx hl)⟩
theorem Only.push (l:List Nat) (H:Heap) (z:List (Option Obj)):Only l H (H ++ z) :=
 ⟨by simp,fun x hx _=>by rw [List.getElem?_append_left hx]⟩
theorem Only.upd {l:List Nat} {H:Heap} {o:Nat} (h:o ∈ l) (z:Option Obj):Only l H (upd H o z):=by
 refine ⟨by simp [AM.upd],fun x _ hl=>?_⟩
 have:o ≠ x:=fun e=>hl (e ▸ h)
 simp [AM.upd,List.getElem?_set_ne this]
theorem Only.mono {l l':List Nat} {H H':Heap} (h:Only l H H') (hl:∀ x ∈ l,x ∈ l'):Only l' H H':=⟨h.1,fun x hx hn=>h.2 x hx fun hx'=>hn (hl x hx')⟩
theorem zy {H H':Heap} {a b:AV} (h:oH H a = some (b,H')):Only (ids a) H H':=by
 unfold oH at h
 split at h
 ·split at h
  ·split at h
   ·cases h
   ·split at h
    ·simp only [Option.some.injEq,Prod.mk.injEq] at h
     obtain ⟨_,rfl⟩:=h
     exact Only.upd (by simp [ids]) _
    ·cases h
  ·cases h
 ·simp only [Option.some.injEq,Prod.mk.injEq] at h
  obtain ⟨_,rfl⟩:=h
  exact Only.refl _ _
theorem zA:∀ {l l':List AV} {H H':Heap},rM H l = some (l',H')→Only (aA l) H H'
 | [],l',H,H',h=>by
  simp only [rM,Option.some.injEq,Prod.mk.injEq] at h
  obtain ⟨_,rfl⟩:=h
  exact Only.refl _ _
 | a :: r,l',H,H',h=>by
  simp only [rM] at h
  split at h
  ·rename_i b H1 h1
   split at h
   ·rename_i r' H2 h2
    simp only [Option.some.injEq,Prod.mk.injEq] at h
    obtain ⟨_,rfl⟩:=h
    exact ((zy h1).mono fun x hx=>by simp [aA,hx]).trans ((zA h2).mono fun x hx=>by simp [aA,hx])
   ·cases h
  ·cases h
theorem zB {H H':Heap} {a b:AV} (h:rO H a = some (b,H')):Only (ids a) H H':=by
 unfold rO at h
 split at h
 ·split at h
  ·rename_i l' H1 h1
   simp only [Option.some.injEq,Prod.mk.injEq] at h
   obtain ⟨_,rfl⟩:=h
   exact (zA h1).mono fun x hx=>by simpa [ids] using hx
  ·cases h
 ·exact zy h
theorem yc:∀ {l l':List AV} {H H':Heap},oU H l = some (l',H')→Only (aA l) H H'
 | [],l',H,H',h=>by
  simp only [oU,Option.some.injEq,Prod.mk.injEq] at h
  obtain ⟨_,rfl⟩:=h
  exact Only.refl _ _
 | a :: r,l',H,H',h=>by
  simp only [oU] at h
  split at h
  ·rename_i b H1 h1
   split at h
   ·rename_i r' H2 h2
    simp only [Option.some.injEq,Prod.mk.injEq] at h
    obtain ⟨_,rfl⟩:=h
    exact ((zB h1).mono fun x hx=>by simp [aA,hx]).trans ((yc h2).mono fun x hx=>by simp [aA,hx])
   ·cases h
  ·cases h
theorem KE {H H':Heap} {t:TypeId} {a v:AV} (h:yD C H t a v = some H'):Only (ids a ++ ids v) H H':=by
 unfold yD at h
 split at h
 ·rename_i o i f g
  have ho:∀ (H:Heap) (z:Option Obj),Only (ids (.ptr o i f g) ++ ids v) H (upd H o z):=fun H z=>Only.upd (by simp [ids]) z
  split at h
  ·cases h
  ·rename_i ob _
   split at h
   ·cases hp:zC C ob t i f v with
    | none=>rw [hp] at h;cases h
    | some p =>
     rw [hp] at h
     simp only [Option.map_some,Option.some.injEq] at h
     subst h
     exact ho _ _
   ·split at h
    ·cases h
    ·rename_i v2 H2 h2
     have h3:=(zB h2).mono (l':=ids (.ptr o i f g) ++ ids v) fun x hx=>by simp [hx]
     split at h
     ·cases h
     ·rename_i ob2 _
      split at h
      ·split at h
       ·cases h
       ·split at h
        ·cases h
        ·cases hp:zC C ob2 t i f v2 with
         | none=>rw [hp] at h;cases h
         | some p =>
          rw [hp] at h
          simp only [Option.map_some,Option.some.injEq] at h
          subst h
          exact h3.trans (ho _ _)
      ·cases h
 ·cases h
theorem Oe {H H':Heap} {t:TypeId} {s x v:AV} (h:copyV C H t s x = some (v,H')):Only (ids s) H H':=by
 unfold copyV at h
 split at h
 ·split at h
  ·split at h
   ·split at h
    ·split at h
     ·simp only [Option.some.injEq,Prod.mk.injEq] at h
      obtain ⟨_,rfl⟩:=h
      exact Only.upd (by simp [ids]) _
     ·cases h
    ·cases h
   ·cases h
  ·cases h
 ·cases h
theorem I4 {H H':Heap} {t:TypeId} {s x v:AV} (h:dw C H t s x = some (v,H')):Only (ids s) H H':=by
  unfold dw at h
  repeat' (split at h)
  all_goals first
    | (cases h;done)
    | (simp only [Option.some.injEq,Prod.mk.injEq] at h
       obtain ⟨_,rfl⟩:=h
       first
       | exact Only.push _ _ _
       | exact Only.refl _ _
       | exact Only.upd (by simp [ids]) _)
theorem Og (t:TypeId):ids (bg C t) = []:=by
 unfold bg
 split
 ·exact GX _ _
 ·rfl
theorem zD {n:Nat} {S:List Nat}:∀ {parts:List (Nat × AV)} {l l':List AV},jR n l parts = some l'→(∀ a ∈ l,∀ x ∈ ids a,x ∈ S)→(∀ p ∈ parts,∀ x ∈ ids p.2,x ∈ S)→∀ a ∈ l',∀ x ∈ ids a,x ∈ S
 | [],l,l',h,hl,_=>by
  simp only [jR,Option.some.injEq] at h
  subst h
  exact hl
 | (i,v) :: r,l,l',h,hl,hp=>by
  simp only [jR] at h
  split at h
  ·refine zD h (fun a ha x hx=>?_) fun p hp'=>hp p (by simp [hp'])
   rcases List.mem_or_eq_of_mem_set ha with ha | rfl
   ·exact hl a ha x hx
   ·exact hp (i,a) (by simp) x hx
  ·cases h
theorem KF {S:List Nat}:∀ {l:List AV},(∀ a ∈ l,∀ x ∈ ids a,x ∈ S)→∀ x ∈ aA l,x ∈ S
 | [],_,x,hx=>by simp [aA] at hx
 | a :: r,h,x,hx=>by
  simp only [aA,List.mem_append] at hx
  rcases hx with hx | hx
  ·exact h a (by simp) x hx
  ·exact KF (fun b hb=>h b (by simp [hb])) x hx
theorem Bl {H H':Heap} {t:TypeId} {n:Nat} {parts:List (Nat × AV)} {v:AV} {S:List Nat} (hp:∀ p ∈ parts,∀ x ∈ ids p.2,x ∈ S) (h:dA C H t n parts = some (v,H')):Only S H H':=by
 unfold dA at h
 split at h
 ·rename_i e _
  split at h
  ·split at h
   ·cases h
   ·rename_i l hl
    have jP:∀ x ∈ aA l,x ∈ S:=by
     have h1:=zD (S:=S) hl (fun a ha x hx=>by
      have:=(List.mem_replicate.1 ha).2
      subst this
      rw [Og] at hx
      cases hx) hp
     exact KF h1
    split at h
    ·simp only [Option.map_eq_some_iff,Prod.mk.injEq] at h
     obtain ⟨_,_,_,rfl⟩:=h
     exact Only.refl _ _
    ·split at h
     ·cases h
     ·split at h
      ·cases h
      ·rename_i l2 H2 h2
       have h3:=(yc h2).mono jP
       split at h
       ·simp only [Option.map_eq_some_iff,Prod.mk.injEq] at h
        obtain ⟨_,_,_,rfl⟩:=h
        exact h3
       ·simp only [Option.map_eq_some_iff,Prod.mk.injEq] at h
        obtain ⟨_,_,_,rfl⟩:=h
        exact h3.trans (Only.push _ _ _)
  ·cases h
 ·cases h
def I5 (C:Ctx) (cf:Cf):Prop:=∀ f args H v H',cf f args H = some (v,H')→Only (fD C f args H) H H'
theorem zF:∀ {l:List Nat} {B:Heap} {x:Nat},x ∉ l→(strike l B)[x]? = B[x]?
 | [],_,_,_=>rfl
 | o :: r,B,x,h=>by
  simp only [List.mem_cons,not_or] at h
  simp only [strike]
  rw [zF h.2,upd,List.getElem?_set_ne (Ne.symm h.1)]
theorem yg {ρ:Nat→Nat→Option (Nat × Nat)} {τ:Nat→Nat} {H:Heap} {π:List Nat} {H1:Heap}:∀ {l:List Nat} {k:Nat} {B:Heap} {x:Nat},x ∉ l→(bW ρ τ H π H1 k l B)[x]? = B[x]?
 | [],_,_,_,_=>rfl
 | o :: r,k,B,x,h=>by
  simp only [List.mem_cons,not_or] at h
  simp only [bW]
  rw [yg h.2,upd,List.getElem?_set_ne (Ne.symm h.1)]
theorem KG (body:Cf):I5 C (jI C body):=by
 intro f args H v H' h
 unfold jI at h
 split at h
 ·cases h
 ·rename_i as aK hl
  simp only at h
  split at h
  ·split at h
   ·cases h
   ·rename_i u H1 _
    unfold wrap at h
    simp only at h
    split at h
    ·simp only [Option.some.injEq,Prod.mk.injEq] at h
     obtain ⟨_,rfl⟩:=h
     refine ⟨by simp [je,gQ],fun x hx hn=>?_⟩
     simp only [fD,hl,List.mem_append,not_or] at hn
     rw [List.getElem?_append_left (by rw [je,gQ];exact hx),zF,yg hn.1]
     intro hm
     obtain ⟨t,_,ht⟩:=List.mem_flatMap.1 (List.mem_filter.1 hm).1
     unfold dM at ht
     split at ht
     ·simp at ht
     ·split at ht
      ·rename_i y hy
       have hy':=List.mem_of_getElem? hy
       rcases List.mem_append.1 hy' with hy' | hy'
       ·exact hn.2 (List.mem_flatMap.2 ⟨y,hy',ht⟩)
       ·simp only [List.mem_singleton] at hy'
        subst hy'
        simp at ht
      ·simp at ht
    ·cases h
  ·cases h
theorem Oh:∀ n,I5 C (kL C n)
 | 0=>by intro f args H v H' h;simp [kL] at h
 | n + 1=>KG _
theorem zG {H H':Heap} {t:TypeId} {x k y:AV} (h:uG C H t x k y = some H'):Only (ids x) H H':=by
 unfold uG at h
 split at h
 ·cases h
 ·split at h
  ·split at h
   ·split at h
    ·split at h
     ·simp only [Option.some.injEq] at h
      subst h
      exact Only.upd (by simp [ids]) _
     ·simp only [Option.some.injEq] at h
      subst h
      exact Only.upd (by simp [ids]) _
     ·cases h
    ·cases h
   ·cases h
  ·cases h
theorem KH {H H':Heap} {t:TypeId} {x k v:AV} (h:sG C H t x k = some (v,H')):Only (ids x) H H':=by
 unfold sG at h
 split at h
 ·cases h
 ·split at h
  ·split at h
   ·split at h
    ·split at h
     ·simp only [Option.some.injEq,Prod.mk.injEq] at h
      obtain ⟨_,rfl⟩:=h
      exact Only.refl _ _
     ·simp only [Option.some.injEq,Prod.mk.injEq] at h
      obtain ⟨_,rfl⟩:=h
      exact Only.upd (by simp [ids]) _
     ·cases h
    ·cases h
   ·cases h
  ·cases h
theorem Bo {H H':Heap} {x k y:AV} (h:gU H x k y = some H'):Only (ids x) H H':=by
 unfold gU at h
 split at h
 ·cases h
 ·split at h
  ·split at h
   ·split at h
    ·split at h
     ·split at h
      ·simp only [Option.some.injEq] at h
       subst h
       exact Only.upd (by simp [ids]) _
      ·cases h
     ·cases h
    ·cases h
   ·cases h
  ·cases h
theorem GZ (hcf:I5 C cf) {fr:Frame} {H H':Heap} {o:Oper} {v:AV} (h:step C cf fr H o = some (v,H')):Only (touched C fr H o) H H':=by
  have hO:∀ y,y ∈ o.op.operands→∀ x ∈ ids (aF C fr y),x ∈ aA (iR C fr o):=fun y hy x h=>uF hy h
  have hT:∀ t y,y ∈ o.op.operands→∀ x ∈ ids (fJ C fr t y),x ∈ aA (iR C fr o):=fun t y hy x h=>uF hy (GY h)
  have keep:∀ {m:Option AV} {l:List Nat},(m.map fun v=>(v,H)) = some (v,H')→Only l H H':=by
    intro m l hm
    cases m with
    | none=>cases hm
    | some y =>
      simp only [Option.map_some,Option.some.injEq,Prod.mk.injEq] at hm
      obtain ⟨_,rfl⟩:=hm
      exact Only.refl _ _
  have self:∀ {x:AV} {l:List Nat},some (x,H) = some (v,H')→Only l H H':=by
    intro x l hm
    simp only [Option.some.injEq,Prod.mk.injEq] at hm
    obtain ⟨_,rfl⟩:=hm
    exact Only.refl _ _
  obtain ⟨dst,op,type,pos,after,guard⟩:=o
  have parts:∀ (t:TypeId) (ps:List (Nat × Operand)),(∀ p ∈ ps,p.2 ∈ op.operands)→∀ p ∈ gZ C fr t ps,∀ x ∈ ids p.2,x ∈ aA (iR C fr ⟨dst,op,type,pos,after,guard⟩):=by
    intro t ps
    induction ps with
    | nil=>intro _ p hp;simp [gZ] at hp
    | cons q r ih =>
      intro hq p hp
      simp only [gZ,List.mem_cons] at hp
      rcases hp with rfl | hp
      · exact hT t q.2 (hq q (by simp))
      · exact ih (fun z hz=>hq z (by simp [hz])) p hp
  cases op <;> simp only [step] at h <;> simp only [Op.operands] at hO hT parts
  case move x=>exact self h
  case assign x =>
    simp only [Option.some.injEq] at h
    unfold ak at h
    split at h
    · simp only [Prod.mk.injEq] at h
      obtain ⟨_,rfl⟩:=h
      exact Only.push _ _ _
    · simp only [Prod.mk.injEq] at h
      obtain ⟨_,rfl⟩:=h
      exact Only.refl _ _
  case pick c x y =>
    split at h
    · exact self h
    · cases h
  case alloc t =>
    cases hb:rP (bg C t) with
    | none=>rw [hb] at h;cases h
    | some p =>
      rw [hb] at h
      simp only [jf,Option.map_some,Option.some.injEq,Prod.mk.injEq] at h
      obtain ⟨_,rfl⟩:=h
      exact Only.push _ _ _
  case box t x =>
    cases hb:rP (fJ C fr t x) with
    | none=>rw [hb] at h;cases h
    | some p =>
      rw [hb] at h
      simp only [Option.bind_some] at h
      split at h
      · simp only [jf,Option.some.injEq,Prod.mk.injEq] at h
        obtain ⟨_,rfl⟩:=h
        exact Only.push _ _ _
      · cases h
  case build t ps=>exact keep h
  case buildSlice t n ps =>
    refine Bl (parts _ _ fun p hp=>?_) h
    simp only [List.mem_toArray,List.mem_map]
    exact ⟨p,hp,rfl⟩
  case load t x=>exact keep h
  case store t x y =>
    cases hs:yD C H t (aF C fr x) (fJ C fr t y) with
    | none=>rw [hs] at h;cases h
    | some H1 =>
      rw [hs] at h
      simp only [Option.map_some,Option.some.injEq,Prod.mk.injEq] at h
      obtain ⟨_,rfl⟩:=h
      refine (KE hs).mono fun z hz=>?_
      simp only [touched,ig]
      rcases List.mem_append.1 hz with hz | hz
      · exact hO x (by simp) z hz
      · exact hT t y (by simp) z hz
  case nilCheck x =>
    split at h
    · split at h
      · exact self h
      · cases h
    · exact self h
    · cases h
  case binOp=>exact keep h
  case unOp=>exact keep h
  case convert s d x =>
    have key:∀ r,vF C H s d (fJ C fr s x) = r→∀ v H',r = some (v,H')→H' = H:=by
      intro r hr v H' hv
      unfold vF at hr
      repeat' (split at hr)
      all_goals (subst hr;first | (cases hv;done) | (simp only [Option.some.injEq,Prod.mk.injEq] at hv;exact hv.2.symm))
    rw [key _ h _ _ rfl]
    exact Only.refl _ _
  case makeFunc fn first caps =>
    cases fn <;> simp only at h
    case func f =>
      split at h
      · exact self h
      · cases h
    all_goals cases h
  case makeMap t r =>
    split at h
    · simp only [sH,Option.some.injEq,Prod.mk.injEq] at h
      obtain ⟨_,rfl⟩:=h
      exact Only.push _ _ _
    · cases h
  case insert t m k y =>
    cases hs:uG C H t (aF C fr m) (aF C fr k) (fJ C fr (nI C t) y) with
    | none=>rw [hs] at h;cases h
    | some H1 =>
      rw [hs] at h
      simp only [Option.map_some,Option.some.injEq,Prod.mk.injEq] at h
      obtain ⟨_,rfl⟩:=h
      exact (zG hs).mono fun z hz=>hO m (by simp) z hz
  case mapUpdate t m k y =>
    cases hs:uG C H t (aF C fr m) (aF C fr k) (fJ C fr (nI C t) y) with
    | none=>rw [hs] at h;cases h
    | some H1 =>
      rw [hs] at h
      simp only [Option.map_some,Option.some.injEq,Prod.mk.injEq] at h
      obtain ⟨_,rfl⟩:=h
      exact (zG hs).mono fun z hz=>hO m (by simp) z hz
  case mapEntry t m k=>exact (KH h).mono fun z hz=>hO m (by simp) z hz
  case entryStore t m s y =>
    cases hs:gU H (aF C fr m) (aF C fr s) (fJ C fr type y) with
    | none=>rw [hs] at h;cases h
    | some H1 =>
      rw [hs] at h
      simp only [Option.map_some,Option.some.injEq,Prod.mk.injEq] at h
      obtain ⟨_,rfl⟩:=h
      exact (Bo hs).mono fun z hz=>hO m (by simp) z hz
  case lookup=>exact keep h
  case makeSlice t l c =>
    unfold kV at h
    repeat' (split at h)
    all_goals first
      | (cases h;done)
      | (simp only [Option.map_eq_some_iff,Prod.mk.injEq] at h
         obtain ⟨_,_,_,rfl⟩:=h
         exact Only.push _ _ _)
  case slice t x lo hi mx =>
    split at h
    · exact keep h
    · cases h
  case fieldAddr=>exact keep h
  case field=>exact keep h
  case indexAddr=>exact keep h
  case index=>exact keep h
  case extract t i =>
    split at h
    · exact keep h
    · cases h
  case call c =>
    cases hc:c.callee with
    | builtin b =>
      simp only [tH,hc] at h
      have hA:∀ (l:List Operand) (ts:List TypeId),(∀ y ∈ l,y ∈ c.args)→∀ a ∈ dV C fr l ts,∀ x ∈ ids a,x ∈ aA (iR C fr ⟨dst,.call c,type,pos,after,guard⟩):=by
        intro l
        induction l with
        | nil=>intro ts _ a ha;simp [dV] at ha
        | cons y r ih =>
          intro ts hl a ha x hx'
          simp only [dV,List.mem_cons] at ha
          have hy:y ∈ (Call.operands c):=by
            simp only [Call.operands,hc]
            exact Array.mem_append.2 (.inr (hl y (by simp)))
          rcases ha with rfl | ha
          · cases ts with
            | nil=>exact hO y hy x hx'
            | cons t ts=>exact hT t y hy x hx'
          · exact ih _ (fun z hz=>hl z (by simp [hz])) a ha x hx'
      have hA':=hA c.args.toList c.argTypes.toList (fun y hy=>Array.mem_toList_iff.1 hy)
      simp only [touched,ig,hc]
      generalize dV C fr c.args.toList c.argTypes.toList = args at h hA'
      have YT:∀ {m:Option Int},(m.map fun n=>(AV.int .i64 n,H)) = some (v,H')→Only (aA (iR C fr ⟨dst,.call c,type,pos,after,guard⟩)) H H':=by
        intro m hm
        cases m with
        | none=>cases hm
        | some y =>
          simp only [Option.map_some,Option.some.injEq,Prod.mk.injEq] at hm
          obtain ⟨_,rfl⟩:=hm
          exact Only.refl _ _
      unfold jQ at h
      split at h
      · exact YT h
      · exact YT h
      · split at h
        · rename_i s x _ _
          exact (I4 h).mono fun z hz=>hA' _ (by simp) z hz
        · cases h
      · rename_i s x
        exact (Oe h).mono fun z hz=>hA' _ (by simp) z hz
      · exact keep h
      · exact keep h
      · cases h
    | value x =>
      simp only [tH,hc] at h
      split at h
      · rename_i f caps he
        split at h
        · simp only [touched,ig,hc,he]
          exact hcf _ _ _ _ _ h
        · cases h
      · cases h
    | invoke r n=>simp only [tH,hc] at h;cases h
  all_goals cases h
end
end Go.AM
namespace Go.AM
def But (n:Nat) (H H2:Heap):Prop:=∀ o,o ≠ n→H2[o]? = H[o]?
theorem But.push (H:Heap) (ob:Option Obj):But H.length H (H ++ [ob]):=by
 intro o ho
 by_cases h:o < H.length
 ·rw [List.getElem?_append_left h]
 ·rw [List.getElem?_eq_none (by simp;omega),List.getElem?_eq_none (by omega)]
theorem But.pop (H:Heap) (ob:Option Obj):But H.length (H ++ [ob]) H:=fun o ho=>(But.push H ob o ho).symm
section
variable {n:Nat} {H H2:Heap}
theorem xq:∀ (k:Nat) (l acc:List Nat) (x:Nat),x ∈ acc→x ∈ reach H k l acc
 | 0,_,_,_,h=>h
 | k + 1,[],_,_,h=>h
 | k + 1,o :: r,acc,x,h=>by
  simp only [reach]
  split
  ·exact xq k r acc x h
  ·split
   ·exact xq k _ _ x (by simp [h])
   ·exact xq k r acc x h
theorem xu (hb:But n H H2):∀ (k:Nat) (l acc:List Nat),n ∉ l→(∀ o ∈ reach H k l acc,n ∉ lF H o)→reach H2 k l acc = reach H k l acc
 | 0,_,_,_,_=>rfl
 | k + 1,[],_,_,_=>rfl
 | k + 1,o :: r,acc,hl,hr=>by
  simp only [List.mem_cons,not_or] at hl
  simp only [reach] at hr ⊢
  split
  ·rename_i hc
   rw [if_pos hc] at hr
   exact xu hb k r acc hl.2 hr
  ·rename_i hc
   rw [if_neg hc] at hr
   rw [hb o (Ne.symm hl.1)]
   split
   ·rename_i ob ho
    rw [ho] at hr
    simp only at hr
    have hm:=hr o (xq k _ _ o (by simp))
    simp only [lF,ho] at hm
    refine xu hb k _ _ ?_ hr
    split
    ·simp only [List.mem_append,not_or]
     exact ⟨hm,hl.2⟩
    ·simpa using hl.2
   ·rename_i hx
    split at hr
    ·rename_i ob ho
     exact absurd ho (hx ob)
    ·exact xu hb k r acc hl.2 hr
theorem KI (hb:But n H H2) {o g:Nat} (ho:o ≠ n):live H2 o g = live H o g:=iM (hb o ho) g
theorem KJ (hb:But n H H2) {o:Nat} (ho:o ≠ n):aX H2 o = aX H o:=by simp only [aX,hb o ho]
theorem G5 (hb:But n H H2) {t:Nat} {a:AV} (h:n ∉ ids a):dN H2 t a = dN H t a:=by
 cases a <;> try rfl
 case sl o off len g =>
  simp only [ids,List.mem_singleton] at h
  simp only [dN,KI hb (Ne.symm h)]
theorem Bq (hb:But n H H2) {t:Nat}:∀ {l:List AV},n ∉ aA l→gI H2 t l = gI H t l
 | [],_=>rfl
 | a :: r,h=>by
  simp only [aA,List.mem_append,not_or] at h
  simp only [gI,G5 hb h.1,Bq hb h.2]
theorem RN (hb:But n H H2) {t:Nat} {a:AV} (h:n ∉ ids a):dS H2 t a = dS H t a:=by
 unfold dS
 split
 ·simp only [ids] at h
  rw [Bq hb h]
 ·simp only [ids] at h
  rw [Bq hb h]
 ·exact G5 hb h
variable {C:Ctx}
theorem zH (hb:But n H H2) {f:Nat}:∀ {args:List AV} {i:Nat},n ∉ aA args→aG C f H2 i args = aG C f H i args
 | [],_,_=>rfl
 | a :: r,i,h=>by
  simp only [aA,List.mem_append,not_or] at h
  simp only [aG,RN hb h.1,zH hb h.2]
theorem vV (hb:But n H H2) {f:Nat} {args:List AV} (h:n ∉ bZ C f args H) :
  aG C f H2 0 args = aG C f H 0 args∧fD C f args H2 = fD C f args H∧bZ C f args H2 = bZ C f args H ∧
  ∀ as aK,aG C f H 0 args = some (as,aK)→n ∉ aA as∧(∀ o ∈ reach H aB (aA as) [],o ≠ n∧n ∉ lF H o)∧n ∉ aK.flatMap (·.objs)∧reach H2 aB (aA as) [] = reach H aB (aA as) []:=by
 unfold bZ at h
 rw [List.mem_append,not_or] at h
 have e1:=zH (C:=C) hb (f:=f) (i:=0) h.1
 cases hl:aG C f H 0 args with
 | none=>exact ⟨by rw [e1,hl],by simp only [fD,e1,hl],by simp only [bZ,e1,hl],fun as aK e=>by cases e⟩
 | some r =>
  obtain ⟨as,aK⟩:=r
  rw [hl] at h e1
  simp only [List.mem_append,not_or] at h
  obtain ⟨_,h1,h2,h3,h4⟩:=h
  have h5:∀ o ∈ reach H aB (aA as) [],n ∉ lF H o:=fun o ho hn=>h4 (List.mem_flatMap.2 ⟨o,ho,hn⟩)
  have e2:=xu hb aB (aA as) [] h1 h5
  have e3:(reach H aB (aA as) []).flatMap (lF H2) = (reach H aB (aA as) []).flatMap (lF H):=by
   have:∀ (L:List Nat),n ∉ L→L.flatMap (lF H2) = L.flatMap (lF H):=by
    intro L
    induction L with
    | nil=>intro _;rfl
    | cons x L ih =>
     intro hx
     simp only [List.mem_cons,not_or] at hx
     simp only [List.flatMap_cons,ih hx.2]
     simp only [lF,hb x (Ne.symm hx.1)]
   exact this _ h2
  refine ⟨e1,by simp only [fD,e1,hl,e2],by simp only [bZ,e1,hl,e2,e3],fun as' af9 e=>?_⟩
  simp only [Option.some.injEq,Prod.mk.injEq] at e
  obtain ⟨rfl,rfl⟩:=e
  exact ⟨h1,fun o ho=>⟨fun e=>h2 (e ▸ ho),h5 o ho⟩,h3,e2⟩
mutual
theorem I7 {ρ ρ':Nat→Nat→Option (Nat × Nat)} {τ:Nat→Nat} (h:∀ o g,o ≠ n→ρ' o g = ρ o g):(v:AV)→n ∉ ids v→ren ρ' τ v = ren ρ τ v
 | .ptr o i f g,hv=>by
  simp only [ids,List.mem_singleton] at hv
  simp only [ren,h o g (Ne.symm hv)]
 | .sl o a b g,hv=>by
  simp only [ids,List.mem_singleton] at hv
  simp only [ren,h o g (Ne.symm hv)]
 | .map o g,hv=>by
  simp only [ids,List.mem_singleton] at hv
  simp only [ren,h o g (Ne.symm hv)]
 | .agg p,hv=>by simp only [ids] at hv;simp only [ren,I7 h p hv]
 | .tup l,hv=>by simp only [ids] at hv;simp only [ren,qM h l hv]
 | .fn f l,hv=>by simp only [ids] at hv;simp only [ren,qM h l hv]
 | .pc l,hv=>by simp only [ids] at hv;simp only [ren,qM h l hv]
 | .pr e l,hv=>by simp only [ids] at hv;simp only [ren,qM h l hv]
 | .pm l,hv=>by simp only [ids] at hv;simp only [ren,qM h l hv]
 | .top,_=>rfl
 | .bool _,_=>rfl
 | .int _ _,_=>rfl
 | .str _,_=>rfl
 | .gK,_=>rfl
 | .iW ..,_=>rfl
 | .ro ..,_=>rfl
 | .jD,_=>rfl
 | .iD,_=>rfl
 | .pn,_=>rfl
 | .pb _,_=>rfl
 | .pi _ _,_=>rfl
theorem qM {ρ ρ':Nat→Nat→Option (Nat × Nat)} {τ:Nat→Nat} (h:∀ o g,o ≠ n→ρ' o g = ρ o g):(l:List AV)→n ∉ aA l→bn ρ' τ l = bn ρ τ l
 | [],_=>rfl
 | a :: r,hv=>by
  simp only [aA,List.mem_append,not_or] at hv
  simp only [bn,I7 h a hv.1,qM h r hv.2]
end
end
theorem set_push {B:Heap} {ob x:Option Obj} {o:Nat} (h:o ≠ B.length):(B ++ [ob]).set o x = B.set o x ++ [ob]:=by
 rw [List.set_append]
 split
 ·rfl
 ·rename_i hlt
  obtain ⟨k,hk⟩:∃ k,o - B.length = k + 1:=⟨o - B.length - 1,by omega⟩
  have e:B.set o x = B:=List.set_eq_of_length_le (by omega)
  rw [hk,e]
  rfl
theorem CZ {ob:Option Obj}:∀ {l:List Nat} {B:Heap},B.length ∉ l→strike l (B ++ [ob]) = strike l B ++ [ob]
 | [],_,_=>rfl
 | o :: r,B,h=>by
  simp only [List.mem_cons,not_or] at h
  simp only [List.filter_nil,strike,upd]
  rw [set_push (Ne.symm h.1),CZ (by simpa using h.2)]
theorem zI {ρ:Nat→Nat→Option (Nat × Nat)} {τ:Nat→Nat} {H H2:Heap} {π:List Nat} {H1:Heap} {ob:Option Obj}
  (hg:∀ k g,fG H2 π k g = fG H π k g):∀ {l:List Nat} {k:Nat} {B:Heap},B.length ∉ l→bW ρ τ H2 π H1 k l (B ++ [ob]) = bW ρ τ H π H1 k l B ++ [ob]
 | [],_,_,_=>rfl
 | o :: r,k,B,h=>by
  simp only [List.mem_cons,not_or] at h
  simp only [bW,upd,hg]
  rw [set_push (Ne.symm h.1),zI hg (by simpa using h.2)]
theorem zJ {H:Heap} {ob:Option Obj} {π:List Nat} (h:H.length ∉ π) (k g:Nat):fG (H ++ [ob]) π k g = fG H π k g:=by
 unfold fG
 cases hk:π[k]? with
 | none=>rfl
 | some o =>
  have:o ≠ H.length:=fun e=>h (e ▸ List.mem_of_getElem? hk)
  simp only [KJ (But.push H ob) this]
theorem yE {H:Heap} {ob:Option Obj} {π:List Nat} {H1:Heap} (h:H.length ∉ π):bQ (H ++ [ob]) π [] H1 = bQ H π [] H1:=by
 funext o g
 unfold bQ
 split
 ·split
  ·simp only [zJ h]
  ·rfl
 ·rfl
theorem G6 {H:Heap} {π:List Nat} {aK:List fC} {v:AV} {H1:Heap} {ob:Option Obj} (hπ:H.length ∉ π) (hl:H.length ∉ aK.flatMap (·.objs)) :
  (∀ u H',wrap H π aK v H1 = some (u,H')→H'.length = H.length→wrap (H ++ [ob]) π aK v H1 = some (u,H' ++ [ob])) ∧
  (∀ u H2,wrap (H ++ [ob]) π aK v H1 = some (u,H2)→H2.length = H.length + 1→∃ H',H2 = H' ++ [ob]∧H'.length = H.length∧wrap H π aK v H1 = some (u,H')):=by
 unfold wrap
 simp only
 generalize hnew:(reach H1 aB (List.range π.length ++ ids v) []).filter (fun o=>decide (π.length≤o)) = new
 have Uz:∀ (L:List Nat) (q:Nat→Bool),H.length ∉ (L.flatMap (dM aK)).filter q:=by
  intro L q hm
  obtain ⟨t,_,ht⟩:=List.mem_flatMap.1 (List.mem_filter.1 hm).1
  unfold dM at ht
  split at ht
  ·simp at ht
  ·split at ht
   ·rename_i y hy
    exact hl (List.mem_flatMap.2 ⟨y,List.mem_of_getElem? hy,ht⟩)
   ·simp at ht
 split
 ·cases new with
  | nil =>
   have key:strike (((tags v ++ ay ((List.range π.length).map (aX H1)) ++ ay ([].map (aX H1))).flatMap (dM aK)).filter fun o=>((tq v ++ cu ((List.range π.length).map (aX H1)) ++ cu ([].map (aX H1))).flatMap (dM aK)).contains o) (bW (bQ (H ++ [ob]) π [] H1) (bV aK) (H ++ [ob]) π H1 0 π (H ++ [ob])) =
     strike (((tags v ++ ay ((List.range π.length).map (aX H1)) ++ ay ([].map (aX H1))).flatMap (dM aK)).filter fun o=>((tq v ++ cu ((List.range π.length).map (aX H1)) ++ cu ([].map (aX H1))).flatMap (dM aK)).contains o) (bW (bQ H π [] H1) (bV aK) H π H1 0 π H) ++ [ob]:=by
    rw [yE hπ,zI (zJ hπ) hπ,CZ]
    rw [gQ]
    exact Uz _ _
   constructor
   ·intro u H' h _
    simp only [Option.some.injEq,Prod.mk.injEq,List.map_nil,List.append_nil] at h ⊢
    obtain ⟨rfl,rfl⟩:=h
    simp only [List.map_nil] at key
    exact ⟨by rw [yE hπ],key⟩
   ·intro u H2 h _
    simp only [Option.some.injEq,Prod.mk.injEq,List.map_nil,List.append_nil] at h ⊢
    simp only [List.map_nil] at key
    obtain ⟨rfl,rfl⟩:=h
    exact ⟨_,key,by rw [je,gQ],by rw [yE hπ],rfl⟩
  | cons x r =>
   constructor
   ·intro u H' h hlen
    simp only [Option.some.injEq,Prod.mk.injEq] at h
    obtain ⟨_,rfl⟩:=h
    simp [je,gQ] at hlen
   ·intro u H2 h hlen
    simp only [Option.some.injEq,Prod.mk.injEq] at h
    obtain ⟨_,rfl⟩:=h
    simp [je,gQ] at hlen
 ·exact ⟨fun u H' h=>by simp at h,fun u H2 h=>by simp at h⟩
section
variable {C:Ctx}
def Oi (C:Ctx) (cf:Cf):Prop:=∀ f args H v H',cf f args H = some (v,H')→H'.length = H.length →
 (∀ ob,H.length ∉ bZ C f args H→cf f args (H ++ [ob]) = some (v,H' ++ [ob])) ∧
 (∀ H0 ob,H = H0 ++ [ob]→H0.length ∉ bZ C f args H→∃ H0',H' = H0' ++ [ob]∧H0'.length = H0.length∧cf f args H0 = some (v,H0'))
theorem En (body:Cf) {n:Nat} {H H2:Heap} (hb:But n H H2) {f:Nat} {args:List AV} (h:n ∉ bZ C f args H) {r:AV × Heap} (hr:jI C body f args H = some r) :
  ∃ π aK v H1,wrap H π aK v H1 = some r∧n ∉ π∧n ∉ aK.flatMap (·.objs)∧jI C body f args H2 = wrap H2 π aK v H1:=by
 obtain ⟨e1,_,_,h4⟩:=vV (C:=C) hb h
 unfold jI at hr ⊢
 rw [e1]
 split at hr
 ·cases hr
 ·rename_i as aK hl
  obtain ⟨h5,h6,h7,h8⟩:=h4 as aK hl
  simp only at hr ⊢
  rw [h8]
  generalize hπ:reach H aB (aA as) [] = π at hr h6 ⊢
  have hnπ:n ∉ π:=fun hm=>(h6 n hm).1 rfl
  have hin:∀ o g,o ≠ n→dH H2 π o g = dH H π o g:=fun o g ho=>by simp only [dH,KI hb ho]
  have hat:∀ o ∈ π,aX H2 o = aX H o:=fun o ho=>KJ hb (h6 o ho).1
  have e3:π.map (aX H2) = π.map (aX H):=List.map_congr_left hat
  have e4:(π.map fun o=>(aX H2 o).map (aT (dH H2 π) (fun _=>as.length + 1) 0)) = π.map fun o=>(aX H o).map (aT (dH H π) (fun _=>as.length + 1) 0):=by
   refine List.map_congr_left fun o ho=>?_
   rw [hat o ho]
   cases hx:aX H o with
   | none=>rfl
   | some ob =>
    have jP:n ∉ ids ob.p:=by
     have:=(h6 o ho).2
     unfold lF at this
     unfold aX at hx
     cases hy:H[o]? with
     | none=>rw [hy] at hx;cases hx
     | some z =>
      rw [hy] at hx this
      simp only [Option.getD_some] at hx
      subst hx
      exact this
    simp only [Option.map_some,aT,I7 hin ob.p jP]
  rw [e3,e4,qM hin as h5]
  split at hr
  ·rename_i hc
   rw [if_pos hc]
   split at hr
   ·cases hr
   ·rename_i v H1 hbd
    refine ⟨π,_,v,H1,hr,hnπ,?_,rfl⟩
    simpa using h7
  ·cases hr
theorem KL (body:Cf):Oi C (jI C body):=by
 intro f args H v H' h hlen
 constructor
 ·intro ob hn
  obtain ⟨π,aK,u,H1,h1,h2,h3,h4⟩:=En (C:=C) body (But.push H ob) hn h
  rw [h4]
  exact (G6 h2 h3).1 v H' h1 hlen
 ·intro H0 ob he hn
  subst he
  obtain ⟨π,aK,u,H1,h1,h2,h3,h4⟩:=En (C:=C) body (But.pop H0 ob) hn h
  rw [h4]
  exact (G6 h2 h3).2 v H' h1 (by simpa using hlen)
theorem Oj:∀ n,Oi C (kL C n)
 | 0=>by intro f args H v H' h;simp [kL] at h
 | n + 1=>KL _
def oI (C:Ctx) (cf:Cf):Prop:=I5 C cf∧Oi C cf
theorem KN (n:Nat):oI C (kL C n):=⟨Oh n,Oj n⟩
end
end Go.AM
namespace Go.AM
def Now (C:Ctx) (T:Nat→Nat→Prop) (m:Nat) (K0:Kx) (nt:Nat) (fr:Frame) (H:Heap) (a:Act) (w:World):Prop :=
 ∃ μ,Inv C ⟨μ,H,w⟩ T∧Evo T m K0 ⟨μ,H,w⟩∧tJ ⟨μ,H,w⟩ T fr a.tmps∧nt≤a.tmps.size∧a.defers = []
section
variable {C:Ctx} {T:Nat→Nat→Prop} {m nt:Nat} {K0:Kx} {fr:Frame} {H:Heap} {a:Act} {w:World}
theorem UA (a:Act) (d:Option Nat) (v:Value):(a.put d v).tmps.size = a.tmps.size:=by
 cases d <;> simp [Act.put]
theorem put_defers (a:Act) (d:Option Nat) (v:Value):(a.put d v).defers = a.defers:=by
 cases d <;> rfl
theorem Now.put {μ μ':Nat→Pl} {H':Heap} {w':World} {x:AV} {v:Value} {d:Option Nat} (hE0:Evo T m K0 ⟨μ,H,w⟩) (hf:tJ ⟨μ,H,w⟩ T fr a.tmps) (hn:nt≤a.tmps.size) (hd:a.defers = [])
  (hI:Inv C ⟨μ',H',w'⟩ T) (hE:Evo T H.length ⟨μ,H,w⟩ ⟨μ',H',w'⟩) (hv:aC ⟨μ',H',w'⟩ T x v) (hdst:Eo nt d = true) :
  Now C T m K0 nt (kM fr d x) H' (a.put d v) w':=by
 refine ⟨μ',hI,hE0.trans hE hE0.len,tJ.put (tJ.evo hE (Nat.le_refl _) hf) hv (fun i hi=>?_),by rw [UA];exact hn,by rw [put_defers];exact hd⟩
 subst hi
 simp only [Eo,decide_eq_true_eq] at hdst
 omega
theorem RQ (K:Kx) (T:Nat→Nat→Prop):aC K T (.tup []) undef:=by
 simp only [aC,undef]
 exact ⟨#[],rfl,rfl,by simp⟩
theorem xA {ops:Array Oper} {o:Oper} {d:Bool} {K:Kx} (hf:tJ K T fr a.tmps) (h:mD ops fr o = some d):Region.wanted o (yielded ops a.tmps) = d:=by
 unfold mD at h
 unfold Region.wanted
 cases hg:o.guard with
 | none =>
  rw [hg] at h
  simp only [Option.some.injEq] at h
  exact h
 | some x =>
  obtain ⟨j,want⟩:=x
  rw [hg] at h
  simp only at h ⊢
  unfold yielded
  cases hd:(ops[j]?).bind (·.dst) with
  | none=>rw [hd] at h;cases h
  | some t =>
   rw [hd] at h
   simp only [Option.bind_some] at h ⊢
   have hv:=hf t
   rw [Array.getD_eq_getD_getElem?] at hv
   split at h
   ·rename_i b hb
    simp only [Option.some.injEq] at h
    subst h
    rw [hb] at hv
    simp only [aC,aH,aQ,RV] at hv
    cases ht:a.tmps[t]? with
    | none=>rw [ht] at hv;simp [undef] at hv
    | some v =>
     rw [ht] at hv
     simp only [Option.getD_some] at hv
     subst hv
     simp only
     cases b <;> cases want <;> rfl
   ·rename_i hb
    simp only [Option.some.injEq] at h
    subst h
    rw [hb] at hv
    simp only [aC] at hv
    obtain ⟨vs,h1,_,_⟩:=hv
    cases ht:a.tmps[t]? with
    | none=>simp
    | some v =>
     rw [ht] at h1
     simp only [Option.getD_some] at h1
     subst h1
     simp
   ·cases h
theorem run_callFunc {P : Program} {f : FuncId} {fn : Func} (hF : P.funcs[f]? = some fn) (hname : (fn.name == "runtime.NumGoroutine") = false) (hb : fn.body.isNone = false) (args : Array Value) (w : World) :
  (callFunc f args).run P w = .ok (.enter f args) w:=by
 simp only [callFunc,Sem.run_bind,run_program,Result.andThen_ok,hF,hname,hb,Bool.false_eq_true,if_false]
 rfl
theorem G7 {cf:Cf} (hcf:DC C cf) {P:Program} (hP:P = C.P) {o:Oper} {x:AV} {H':Heap} (h:step C cf fr H o = some (x,H')) (hN:Now C T m K0 nt fr H a w) (hdst:Eo nt o.dst = true)
  {next:Act→World→Prop} {Q:Exit→Act→World→Prop} (hnext:∀ v w',Now C T m K0 nt (kM fr o.dst x) H' (a.put o.dst v) w'→next (a.put o.dst v) w') :
  o.wp P a w next Q:=by
 subst hP
 obtain ⟨μ,hI,hE0,hf,hn,hd⟩:=hN
 unfold Oper.wp
 by_cases hfn:isFn o.op = true
 ·obtain ⟨dst,op,type,pos,after,guard⟩:=o
  cases op <;> simp only [isFn,Bool.false_eq_true] at hfn
  case call c =>
   have hce:∃ fx,c.callee = .value fx:=by
    cases hc:c.callee <;> rw [hc] at hfn <;> simp at hfn
    exact ⟨_,rfl⟩
   obtain ⟨fx,hce⟩:=hce
   simp only [step,tH,hce] at h
   split at h
   ·rename_i f caps hev
    split at h
    ·rename_i hbod
     have hfv:=xB hI hf fx
     rw [hev] at hfv
     simp only [aC,aH] at hfv
     obtain ⟨vs,hvs,hlen,hcap⟩:=hfv
     have hargs:dY ⟨μ,H,w⟩ T (dV C fr c.args.toList (aJ C f) ++ caps) ((c.args.map a.eval) ++ vs).toList:=by
      have h1:=uH hI hf c.args.toList (aJ C f)
      have h2:∀ (l:List AV) (us:List Value) ,us.length = l.length→(∀ (j:Nat) (a:AV),l[j]? = some a→∃ u,us[j]? = some u∧aQ ⟨μ,H,w⟩ T a u)→dY ⟨μ,H,w⟩ T l us:=by
       intro l
       induction l with
       | nil=>intro us hl _;cases us with
        | nil=>trivial
        | cons=>simp at hl
       | cons b r ih =>
        intro us hl hj
        cases us with
        | nil=>simp at hl
        | cons u us =>
         refine ⟨?_,ih us (by simpa using hl) (fun j c hc=>by simpa using hj (j + 1) c (by simpa using hc))⟩
         obtain ⟨u',h3,h4⟩:=hj 0 b rfl
         simp only [List.getElem?_cons_zero,Option.some.injEq] at h3
         subst h3
         exact (aH.s h4).v
      have h3:∀ (l:List AV) (us:List Value) (l':List AV) (us':List Value),dY ⟨μ,H,w⟩ T l us→dY ⟨μ,H,w⟩ T l' us'→dY ⟨μ,H,w⟩ T (l ++ l') (us ++ us'):=by
       intro l
       induction l with
       | nil=>intro us l' us' h h';rw [h.nil];exact h'
       | cons b r ih =>
        intro us l' us' h h'
        obtain ⟨v,s,rfl,h4,h5⟩:=h.cons
        exact ⟨h4,ih s l' us' h5 h'⟩
      rw [Array.toList_append,Array.toList_map]
      exact h3 _ _ _ _ h1 (h2 _ _ (by simpa using hlen) (fun j b hb=>by obtain ⟨u,h4,h5⟩:=hcap j b hb;exact ⟨u,by simpa using h4,h5⟩))
     have Bg:=hcf f _ H x H' h ⟨μ,H,w⟩ T _ rfl hI hargs
     have hrun:(execOp a.eval ⟨dst,.call c,type,pos,after,guard⟩).run C.P w = .ok (.enter f ((c.args.map a.eval) ++ vs)) w:=by
      unfold bodied at hbod
      cases hF:C.P.funcs[f]? with
      | none=>rw [hF] at hbod;simp at hbod
      | some fn =>
       rw [hF] at hbod
       simp only [Option.map_some,Option.getD_some,Bool.and_eq_true,bne_iff_ne,ne_eq] at hbod
       have hb1:fn.body.isNone = false:=by
        cases hb:fn.body with
        | none=>rw [hb] at hbod;simp at hbod
        | some=>rfl
       have hname : (fn.name == "runtime.NumGoroutine") = false := by simpa using hbod.2
       simp only [execOp,resolve,hce,hvs,Deferred.ofValue,Sem.run_bind,Sem.run_pure,Result.andThen_ok,invoke,Array.empty_append]
       exact run_callFunc hF hname hb1 _ _
     rw [hrun,Oper.upon_enter]
     refine Calls.mono Bg fun e w' he=>?_
     cases e with
     | returned v =>
      obtain ⟨μ',h1,h2,h3⟩:=he
      exact hnext v w' (Now.put hE0 hf hn hd h1 h2 h3 hdst)
     | panicked=>exact he.elim
     | outgrown=>exact he.elim
    ·cases h
   ·cases h
 ·have hr:=step_ok hI hf (by simpa using hfn) h
  simp only at hr
  revert hr
  generalize (execOp a.eval o).run C.P w = r
  intro hr
  unfold Res at hr
  split at hr
  ·obtain ⟨μ',h1,h2,h3⟩:=hr
   rw [Oper.upon_value]
   exact hnext _ _ (Now.put hE0 hf hn hd h1 h2 h3 hdst)
  ·obtain ⟨μ',h1,h2,h3⟩:=hr
   rw [Oper.upon_skip]
   exact hnext _ _ (Now.put hE0 hf hn hd h1 h2 h3 hdst)
  ·exact hr.elim
theorem KO {d:Option Nat} (hN:Now C T m K0 nt fr H a w) (hdst:Eo nt d = true):Now C T m K0 nt (kM fr d (.tup [])) H (a.put d undef) w:=by
 obtain ⟨μ,hI,hE0,hf,hn,hd⟩:=hN
 exact Now.put hE0 hf hn hd hI (Evo.refl T _ (Nat.le_refl _)) (RQ _ _) hdst
theorem Bv {cf:Cf} (hcf:DC C cf) {ops:Array Oper} {Q:Exit→Act→World→Prop}:∀ (l:List Oper) (i:Nat) {fr:Frame} {H:Heap} {a:Act} {w:World} {fr':Frame} {H':Heap},ops.toList.drop i = l →
  kW C cf nt ops l fr H = some (fr',H')→Now C T m K0 nt fr H a w→(∀ a' w',Now C T m K0 nt fr' H' a' w'→Q .normal a' w')→wpOps C.P ops Q (List.range' i l.length) a w
 | [],i,fr,H,a,w,fr',H',hl,h,hN,hQ=>by
  simp only [kW,Option.some.injEq,Prod.mk.injEq] at h
  obtain ⟨rfl,rfl⟩:=h
  exact hQ a w hN
 | o :: r,i,fr,H,a,w,fr',H',hl,h,hN,hQ=>by
  have hi:ops[i]? = some o:=by
   rw [← Array.getElem?_toList]
   have:(ops.toList.drop i)[0]? = some o:=by rw [hl];rfl
   simpa using this
  have hl':ops.toList.drop (i + 1) = r:=by
   have:=congrArg List.tail hl
   simpa [List.tail_drop] using this
  simp only [List.length_cons,List.range'_succ]
  rw [wpOps_cons]
  unfold wpOp
  rw [hi]
  simp only
  simp only [kW] at h
  split at h
  ·rename_i hdst
   split at h
   ·rename_i hw
    obtain ⟨μ,hI,hE0,hf,hn,hd⟩:=id hN
    rw [xA hf hw]
    simp only [if_true]
    split at h
    ·rename_i v H1 hs
     left
     exact G7 hcf rfl hs hN hdst fun u w' hN'=>Bv hcf r (i + 1) hl' h hN' hQ
    ·cases h
   ·rename_i hw
    obtain ⟨μ,hI,hE0,hf,hn,hd⟩:=id hN
    rw [xA hf hw]
    simp only [Bool.false_eq_true,if_false]
    exact Bv hcf r (i + 1) hl' h (KO hN hdst) hQ
   ·cases h
  ·cases h
end
end Go.AM
namespace Go.AM
theorem KP (ρ:Nat→Nat→Option (Nat × Nat)) (τ:Nat→Nat):∀ (fr:Frame) (i:Nat),au (UC ρ τ fr) i = ren ρ τ (au fr i)
 | [],i=>rfl
 | (j,v) :: r,i=>by
  simp only [UC,au]
  split
  ·rfl
  ·exact KP ρ τ r i
theorem G8 (fr:Frame):∀ (l:List Nat) (i:Nat),au (aZ l fr) i = au fr i∨au (aZ l fr) i = .top
 | [],i=>.inr rfl
 | j :: r,i=>by
  have:=G8 fr r i
  simp only [aZ,List.map_cons,au]
  split
  ·rename_i h;subst h;exact .inl rfl
  ·exact this
section
variable {C:Ctx} {T:Nat→Nat→Prop} {m nt:Nat} {K0:Kx} {fr:Frame} {H:Heap} {a:Act} {w:World}
theorem Now.keep (h:Now C T m K0 nt fr H a w) (l:List Nat):Now C T m K0 nt (aZ l fr) H a w:=by
 obtain ⟨μ,hI,hE,hf,hn,hd⟩:=h
 refine ⟨μ,hI,hE,fun i=>?_,hn,hd⟩
 rcases G8 fr l i with h | h <;> rw [h]
 ·exact hf i
 ·exact aC.top _ _ _
def RS (m:Nat) (new:List Nat) (H:Heap) (o g:Nat):Option (Nat × Nat) :=
 match live H o g with
 | some _=>if o < m then some (o,g) else (idxOf new o m).map fun k=>(k,0)
 | none=>none
def WY (ρ:Nat→Nat→Option (Nat × Nat)) (H:Heap) (o:Nat) (g:Nat→Nat):Option Obj :=
 match H[o]? with | some (some ob)=>some (aT ρ id (g ob.g) ob) | _=>none
def C9 (ρ:Nat→Nat→Option (Nat × Nat)) (m:Nat) (new:List Nat) (H:Heap):Heap :=
 (List.range m).map (fun o=>WY ρ H o id) ++ new.map (fun o=>WY ρ H o (fun _=>0))
def nμ (m:Nat) (new:List Nat) (μ:Nat→Pl) (o:Nat):Pl:=if o < m then μ o else μ (new.getD (o - m) 0)
theorem G9 {ρ:Nat→Nat→Option (Nat × Nat)} {H:Heap} {o:Nat} {g:Nat→Nat} {ob':Obj} (h:WY ρ H o g = some ob'):∃ ob,H[o]? = some (some ob)∧ob' = aT ρ id (g ob.g) ob:=by
 unfold WY at h
 split at h
 ·rename_i ob hob
  simp only [Option.some.injEq] at h
  exact ⟨ob,hob,h.symm⟩
 ·cases h
theorem Bz {ρ:Nat→Nat→Option (Nat × Nat)} {new:List Nat}:(C9 ρ m new H).length = m + new.length:=by simp [C9]
theorem nO {ρ:Nat→Nat→Option (Nat × Nat)} {new:List Nat} {μ:Nat→Pl} {o:Nat} {ob':Obj} (h:(C9 ρ m new H)[o]? = some (some ob')) :
  (o < m∧∃ ob,H[o]? = some (some ob)∧ob' = aT ρ id ob.g ob∧nμ m new μ o = μ o) ∨
  ∃ j k ob,o = m + j∧new[j]? = some k∧H[k]? = some (some ob)∧ob' = aT ρ id 0 ob∧nμ m new μ o = μ k:=by
 unfold C9 at h
 by_cases hlt:o < m
 ·left
  rw [List.getElem?_append_left (by simpa using hlt),List.getElem?_map,List.getElem?_range hlt] at h
  simp only [Option.map_some,Option.some.injEq] at h
  obtain ⟨ob,h1,h2⟩:=G9 h
  exact ⟨hlt,ob,h1,h2,by simp [nμ,hlt]⟩
 ·right
  rw [List.getElem?_append_right (by simp;omega),List.length_map,List.length_range,List.getElem?_map] at h
  cases hk:new[o - m]? with
  | none=>rw [hk] at h;cases h
  | some k =>
   rw [hk] at h
   simp only [Option.map_some,Option.some.injEq] at h
   obtain ⟨ob,h1,h2⟩:=G9 h
   exact ⟨o - m,k,ob,by omega,hk,h1,h2,by simp [nμ,hlt,List.getD_eq_getElem?_getD,hk]⟩
theorem zK {ρ:Nat→Nat→Option (Nat × Nat)} {new:List Nat} {μ:Nat→Pl} {b:Nat} (h:Own ⟨nμ m new μ,C9 ρ m new H,w⟩ b):Own ⟨μ,H,w⟩ b:=by
 obtain ⟨o,ob',h1,h2,h3⟩:=h
 rcases nO (μ:=μ) h1 with ⟨_,ob,g1,rfl,g3⟩ | ⟨j,k,ob,_,_,g1,rfl,g3⟩
 ·simp only [g3] at h2 h3
  exact ⟨o,ob,g1,(Real.same (dB _ _ _ ob)).1 h2,h3⟩
 ·simp only [g3] at h2 h3
  exact ⟨k,ob,g1,(Real.same (dB _ _ _ ob)).1 h2,h3⟩
theorem UD {new:List Nat} {μ:Nat→Pl}:Ren (RS m new H) id ⟨μ,H,w⟩ ⟨nμ m new μ,C9 (RS m new H) m new H,w⟩ T T (fun _=>True) where
 w:=rfl
 h:=by
  intro o g o' g' h
  unfold RS at h
  split at h
  ·rename_i ob hob
   obtain ⟨ho,hg⟩:=bI.1 hob
   split at h
   ·rename_i hlt
    simp only [Option.some.injEq,Prod.mk.injEq] at h
    obtain ⟨rfl,rfl⟩:=h
    refine ⟨by simp only;rw [Bz];omega,ob,hob,fun ob' h=>?_⟩
    rcases nO (μ:=μ) h with ⟨_,ob1,g1,rfl,g3⟩ | ⟨j,k,ob,g,_⟩
    ·rw [ho] at g1
     simp only [Option.some.injEq] at g1
     subst g1
     simp only [aT,hg,Nat.le_refl,true_and]
     exact fun _=>⟨g3,dB _ _ 0 ob⟩
    ·omega
   ·rename_i hlt
    cases hi:idxOf new o m with
    | none=>rw [hi] at h;cases h
    | some k =>
     rw [hi] at h
     simp only [Option.map_some,Option.some.injEq,Prod.mk.injEq] at h
     obtain ⟨rfl,rfl⟩:=h
     obtain ⟨h1,h2⟩:=uz hi
     have h3:=(List.getElem?_eq_some_iff.1 h2).1
     refine ⟨by simp only;rw [Bz];omega,ob,hob,fun ob' h=>?_⟩
     rcases nO (μ:=μ) h with ⟨q,_⟩ | ⟨j,k',ob1,q,q2,g1,rfl,g3⟩
     ·omega
     ·have:j = k - m:=by omega
      subst this
      rw [h2] at q2
      simp only [Option.some.injEq] at q2
      subst q2
      rw [ho] at g1
      simp only [Option.some.injEq] at g1
      subst g1
      exact ⟨Nat.zero_le _,fun _=>⟨g3,dB _ _ 0 ob⟩⟩
  ·cases h
 t:=fun t _ b hb=>⟨hb.1,fun h=>hb.2.1 (zK h),hb.2.2⟩
theorem Now.norm (h:Now C T m K0 nt fr H a w):Now C T m K0 nt (I8 m fr H).1 (I8 m fr H).2 a w:=by
 obtain ⟨μ,hI,hE,hf,hn,hd⟩:=h
 obtain ⟨hnd,hlive⟩:=tu H aB (List.range m ++ Ol fr) [] List.nodup_nil (by simp)
 have e:I8 m fr H = (UC (RS m ((reach H aB (List.range m ++ Ol fr) []).filter fun o=>m≤o) H) id fr,
   C9 (RS m ((reach H aB (List.range m ++ Ol fr) []).filter fun o=>m≤o) H) m ((reach H aB (List.range m ++ Ol fr) []).filter fun o=>m≤o) H):=rfl
 rw [e]
 generalize hnew:((reach H aB (List.range m ++ Ol fr) []).filter fun o=>decide (m≤o)) = new
 have hnn:new.Nodup:=by rw [← hnew];exact hnd.filter _
 have hge:∀ k ∈ new,m≤k:=fun k hk=>by rw [← hnew] at hk;simpa using (List.mem_filter.1 hk).2
 have hR:=UD (T:=T) (m:=m) (H:=H) (w:=w) (new:=new) (μ:=μ)
 have hlen:m≤H.length:=hE.len
 refine ⟨nμ m new μ,?_,?_,fun i=>?_,hn,hd⟩
 ·constructor
  ·intro o ob' h
   rcases nO (μ:=μ) h with ⟨_,ob,g1,rfl,g3⟩ | ⟨j,k,ob,_,_,g1,rfl,g3⟩
   ·exact fU.ren hR (fun _ _=>trivial) g3 (hI.obj o ob g1)
   ·exact fU.ren hR (fun _ _=>trivial) g3 (hI.obj k ob g1)
  ·intro o o' ob ob' h h' hr hr' hb
   rcases nO (μ:=μ) h with ⟨l1,ob1,g1,rfl,g3⟩ | ⟨j,k,ob1,l1,q,g1,rfl,g3⟩ <;>
   rcases nO (μ:=μ) h' with ⟨l1',Dz,g1',rfl,g3'⟩ | ⟨j',k',Dz,l1',q',g1',rfl,g3'⟩ <;>
   simp only [g3,g3'] at hr hr' hb <;>
   have:=hI.inj _ _ ob1 Dz g1 g1' ((Real.same (dB _ _ _ _)).1 hr) ((Real.same (dB _ _ _ _)).1 hr') hb
   ·exact this
   ·have:=hge k' (List.mem_of_getElem? q')
    omega
   ·have:=hge k (List.mem_of_getElem? q)
    omega
   ·subst this
    have e1:=List.getElem?_eq_some_iff.1 q
    have e2:=List.getElem?_eq_some_iff.1 q'
    have:j = j':=(List.getElem_inj hnn).1 (e1.2.trans e2.2.symm)
    omega
  ·exact fun b h=>hI.own b (zK h)
  ·exact hI.new
  ·exact hI.mono
  ·intro g p hg
   obtain ⟨h1,h2,h3⟩:=hI.glob g p hg
   have hnt:∀ b,NT ⟨μ,H,w⟩ T dG b→NT ⟨nμ m new μ,C9 (RS m new H) m new H,w⟩ T dG b:=fun b hb=>⟨hb.1,fun h=>hb.2.1 (zK h),hb.2.2⟩
   exact ⟨h1,hnt _ h2,jy (fun b hb=>⟨hnt b hb,fun _ _ h=>h⟩) p _ _ (fun _ _ h=>h) h3⟩
 ·refine ⟨hE.lo,by simp only;rw [Bz];omega,hE.size,hE.os,hE.tape,hE.output,fun o ho ob' h=>?_,fun b hb h=>hE.own b hb (zK h),hE.cells,hE.exact⟩
  rcases nO (μ:=μ) h with ⟨_,ob,g1,rfl,g3⟩ | ⟨j,k,ob,l1,_⟩
  ·obtain ⟨ob0,h1,h2,h3⟩:=hE.obj o ho ob g1
   refine ⟨ob0,h1,h2,fun e=>?_⟩
   obtain ⟨h4,h5⟩:=h3 e
   exact ⟨g3.trans h4,h5.trans (dB _ _ _ ob)⟩
  ·omega
 ·rw [KP]
  exact aC.ren hR (fun _ _=>trivial) (hf i)
theorem Now.after (h:Now C T m K0 nt fr H a w) (f id:Nat):(iY C f m id fr H).ex = .normal∧Now C T m K0 nt (iY C f m id fr H).fr (iY C f m id fr H).H a w:=by
 have hk:Now C T m K0 nt (match C.keep f id with | some l=>aZ l fr | none=>fr) H a w:=by
  split
  ·exact h.keep _
  ·exact h
 unfold iY
 simp only
 split
 ·exact ⟨rfl,hk.norm⟩
 ·exact ⟨rfl,hk⟩
end
end Go.AM
namespace Go.AM
def FEq (fr fr':Frame):Prop:=∀ i,au fr i = au fr' i
theorem FEq.put {fr fr':Frame} (h:FEq fr fr') (d:Option Nat) (v:AV):FEq (kM fr d v) (kM fr' d v):=by
 intro i
 cases d with
 | none=>exact h i
 | some d=>simp only [kM,au,h i]
theorem RU (fr:Frame) {d e:Option Nat} (v u:AV) (h:∀ i,d = some i→e ≠ some i):FEq (kM (kM fr d v) e u) (kM (kM fr e u) d v):=by
 intro i
 cases d with
 | none=>rfl
 | some d =>
  cases e with
  | none=>rfl
  | some e =>
   have hne:e ≠ d:=fun x=>h d rfl (by rw [x])
   simp only [kM,au]
   by_cases h1:e = i
   ·have h2:d ≠ i:=fun x=>hne (h1.trans x.symm)
    simp [h1,h2]
   ·simp [h1]
theorem KQ {fr:Frame} {d:Option Nat} {v:AV} {i:Nat} (h:d ≠ some i):au (kM fr d v) i = au fr i:=by
 cases d with
 | none=>rfl
 | some d =>
  have:d ≠ i:=fun x=>h (by rw [x])
  simp [kM,au,this]
section
variable {C:Ctx} {cf:Cf} {nt:Nat} {ops:Array Oper}
theorem Dc {fr fr':Frame} {x:Operand} (h:∀ t,x = .tmp t→au fr t = au fr' t):aF C fr x = aF C fr' x:=by
 cases x <;> simp only [aF]
 exact h _ rfl
theorem rQ {fr fr':Frame} {x:Operand} {t:TypeId} (h:aF C fr x = aF C fr' x):fJ C fr t x = fJ C fr' t x:=by
 cases x <;> simp only [fJ] <;> exact h
theorem qN {fr fr':Frame}:∀ {l:List Operand} {ts:List TypeId},(∀ x ∈ l,aF C fr x = aF C fr' x)→dV C fr l ts = dV C fr' l ts
 | [],_,_=>rfl
 | x :: r,ts,h=>by
  simp only [dV]
  rw [qN (fun y hy=>h y (by simp [hy])),h x (by simp)]
  cases ts with
  | nil=>rfl
  | cons t ts=>simp only [rQ (h x (by simp))]
theorem vG {fr fr':Frame} {t:TypeId}:∀ {l:List (Nat × Operand)},(∀ x ∈ l,aF C fr x.2 = aF C fr' x.2)→gZ C fr t l = gZ C fr' t l
 | [],_=>rfl
 | (i,x) :: r,h=>by
  simp only [gZ]
  rw [vG (fun y hy=>h y (by simp [hy])),rQ (h (i,x) (by simp))]
theorem Om {fr fr':Frame} {H:Heap} {o:Oper} (h:∀ x ∈ o.op.operands,aF C fr x = aF C fr' x):step C cf fr H o = step C cf fr' H o:=by
 obtain ⟨dst,op,type,pos,after,guard⟩:=o
 have hT:∀ t x,x ∈ op.operands→fJ C fr t x = fJ C fr' t x:=fun t x hx=>rQ (h x hx)
 have parts:∀ (t:TypeId) (ps:Array (Nat × Operand)),(∀ x ∈ (ps.toList.map (·.2)).toArray,aF C fr x = aF C fr' x)→gZ C fr t ps.toList = gZ C fr' t ps.toList:=fun t ps hp =>
  vG fun x hx=>hp x.2 (List.mem_toArray.2 (List.mem_map.2 ⟨x,hx,rfl⟩))
 have omap:∀ (r:Option Operand),(∀ x,r = some x→aF C fr x = aF C fr' x)→r.map (aF C fr) = r.map (aF C fr'):=fun r hr=>by
  cases r with
  | none=>rfl
  | some x=>simp [hr x rfl]
 cases op <;> simp only [Op.operands] at h hT <;> simp only [step]
 case build t ps=>rw [parts 0 ps h]
 case buildSlice t n ps=>rw [parts _ ps h]
 case makeFunc fn first captured =>
  have:captured.toList.map (aF C fr) = captured.toList.map (aF C fr'):=List.map_congr_left fun x hx=>h x (Array.mem_append.2 (.inr (Array.mem_toList_iff.1 hx)))
  cases fn <;> simp only [this]
 case makeMap t r=>rw [omap r fun x hx=>h x (by simp [hx])]
 case slice t x lo hi mx=>rw [hT t x (by simp),omap lo fun y hy=>h y (by simp [hy]),omap hi fun y hy=>h y (by simp [hy])]
 case call c =>
  have hargs:∀ ts,dV C fr c.args.toList ts = dV C fr' c.args.toList ts:=fun ts=>qN fun x hx=>h x (Array.mem_append.2 (.inr (Array.mem_toList_iff.1 hx)))
  simp only [tH]
  cases hc:c.callee with
  | builtin b=>simp only [hargs]
  | value x =>
   simp only [hargs]
   rw [h x (by simp [Call.operands,hc])]
  | invoke=>rfl
 all_goals
  first
  | rfl
  | (simp only [h _ (by simp:_ ∈ _),hT _ _ (by simp:_ ∈ _)];done)
  | (simp_all;done)
theorem vW (o:Oper) (r:List Oper) (fr:Frame) (H:Heap) :
  kW C cf nt ops (o :: r) fr H = match out1 C cf nt ops o fr H with | some (v,H')=>kW C cf nt ops r (kM fr o.dst v) H' | none=>none:=by
 simp only [kW,out1]
 split
 ·rcases mD ops fr o with _ | _ | _ <;> rfl
 ·rfl
theorem zL {fr fr':Frame} {o:Oper} (h:∀ t ∈ looks ops o,au fr t = au fr' t):mD ops fr o = mD ops fr' o:=by
 unfold mD
 cases hg:o.guard with
 | none=>rfl
 | some x =>
  obtain ⟨j,want⟩:=x
  simp only
  cases hd:(ops[j]?).bind (·.dst) with
  | none=>rfl
  | some d=>simp only;rw [h d (by simp [looks,hg,hd])]
theorem yF {fr fr':Frame} {H:Heap} {o:Oper} (h:∀ t ∈ looks ops o,au fr t = au fr' t):out1 C cf nt ops o fr H = out1 C cf nt ops o fr' H:=by
 unfold out1
 rw [zL h,Om fun x hx=>Dc fun t ht=>h t ?_]
 subst ht
 exact List.mem_append_left _ (List.mem_filterMap.2 ⟨.tmp t,by simpa using hx,rfl⟩)
theorem He {fr:Frame} {H H':Heap} {o:Oper} {v:AV} (hf:lD C o = true) (h:step C cf fr H o = some (v,H')):H' = H∧∀ H2,step C cf fr H2 o = some (v,H2):=by
  obtain ⟨dst,op,type,pos,after,guard⟩:=o
  have keep:∀ {m:Option AV},(m.map fun v=>(v,H)) = some (v,H')→H' = H∧∀ H2:Heap,(m.map fun v=>(v,H2)) = some (v,H2):=by
    intro m hm
    cases m with
    | none=>cases hm
    | some y =>
      simp only [Option.map_some,Option.some.injEq,Prod.mk.injEq] at hm
      obtain ⟨rfl,rfl⟩:=hm
      exact ⟨rfl,fun _=>rfl⟩
  cases op <;> simp only [lD,Bool.false_eq_true] at hf <;> simp only [step] at h ⊢
  case move x =>
    simp only [Option.some.injEq,Prod.mk.injEq] at h
    obtain ⟨rfl,rfl⟩:=h
    exact ⟨rfl,fun _=>rfl⟩
  case assign x =>
    have:∀ H,ak C H type (fJ C fr type x) = (fJ C fr type x,H):=by
      intro H
      unfold ak
      split
      · rename_i e he
        rw [he] at hf
        cases hf
      · rfl
    rw [this] at h
    simp only [Option.some.injEq,Prod.mk.injEq] at h
    obtain ⟨rfl,rfl⟩:=h
    exact ⟨rfl,fun H2=>by rw [this]⟩
  case pick c x y =>
    split at h
    · rename_i d hd
      simp only [Option.some.injEq,Prod.mk.injEq] at h
      obtain ⟨rfl,rfl⟩:=h
      exact ⟨rfl,fun _=>rfl⟩
    · cases h
  case build t ps=>exact keep h
  case unOp op t x=>exact keep h
  case field t x n=>exact keep h
  case index t x ix=>exact keep h
  case extract t i =>
    split at h
    · exact keep h
    · cases h
  case makeFunc fn first caps =>
    cases fn <;> simp only at h ⊢
    case func f =>
      split at h
      · rename_i hc
        simp only [Option.some.injEq,Prod.mk.injEq] at h
        obtain ⟨rfl,rfl⟩:=h
        exact ⟨rfl,fun _=>by rw [if_pos hc]⟩
      · cases h
    all_goals cases h
  case binOp op t x y ne =>
    have hb:∀ H1 H2 a b,Gn C H1 op t a b x y = Gn C H2 op t a b x y:=by
      intro H1 H2 a b
      have hn:∀ z,nP C t z = false:=by
        intro z
        unfold iT at hf
        unfold nP
        split <;> simp_all
      have he:eqV C H1 t a b x y = eqV C H2 t a b x y:=by
        unfold eqV
        split <;> first | rfl | simp [hn]
      unfold Gn
      split
      · rfl
      · rfl
      · split
        · rw [he]
        · rw [he]
        · rfl
    obtain ⟨h1,h2⟩:=keep h
    exact ⟨h1,fun H2=>by rw [hb H2 H];exact h2 H2⟩
  case convert s d x =>
    cases hd:und C d <;> rw [hd] at hf <;> simp only [Bool.false_eq_true] at hf
    case int k =>
      unfold vF at h ⊢
      split at h
      · cases h
      · rename_i hs
        simp only [hd,hs] at h ⊢
        split at h
        · rename_i k' k2 n e
          simp only [Option.some.injEq,Prod.mk.injEq] at h
          obtain ⟨rfl,rfl⟩:=h
          refine ⟨rfl,fun _=>?_⟩
          simp_all
        all_goals simp_all
  case call c =>
    cases hc:c.callee with
    | builtin b =>
      rw [hc] at hf
      simp only [tH,hc] at h ⊢
      cases b <;> simp only [Bool.false_eq_true] at hf <;>
      (generalize dV C fr c.args.toList c.argTypes.toList = args at h ⊢
       cases args with
       | nil=>simp [jQ] at h
       | cons y r=>simp only [jQ] at h ⊢;exact keep h)
    | value x=>rw [hc] at hf;simp at hf
    | invoke r n=>rw [hc] at hf;simp at hf
theorem quiet_step {fr:Frame} {H H':Heap} {o:Oper} {v:AV} (hq:jA C o = true) (h:step C cf fr H o = some (v,H')):H' = H:=by
 by_cases hf:lD C o = true
 ·exact (He hf h).1
 obtain ⟨dst,op,type,pos,after,guard⟩:=o
 have keep:∀ {m:Option AV},(m.map fun v=>(v,H)) = some (v,H')→H' = H:=by
  intro m hm
  cases m with
  | none=>cases hm
  | some y =>
   simp only [Option.map_some,Option.some.injEq,Prod.mk.injEq] at hm
   exact hm.2.symm
 cases op <;> simp only [jA] at hq <;> try exact absurd hq hf
 all_goals simp only [step] at h
 case buildSlice t n ps =>
  cases hu:und C t <;> rw [hu] at hq <;> simp only [Bool.false_eq_true] at hq
  case slice e =>
   unfold dA at h
   simp only [hu,hq,if_true] at h
   split at h
   ·split at h
    ·cases h
    ·split at h
     ·exact keep h
     ·cases h
   ·cases h
 case load t x=>exact keep h
 case nilCheck x =>
  split at h
  ·split at h
   ·simp only [Option.some.injEq,Prod.mk.injEq] at h;exact h.2.symm
   ·cases h
  ·simp only [Option.some.injEq,Prod.mk.injEq] at h;exact h.2.symm
  ·cases h
 case binOp op t x y ne=>exact keep h
 case convert s d x =>
  have key:∀ r,vF C H s d (fJ C fr s x) = r→∀ v H',r = some (v,H')→H' = H:=by
   intro r hr v H' hv
   unfold vF at hr
   repeat' (split at hr)
   all_goals (subst hr;first | (cases hv;done) | (simp only [Option.some.injEq,Prod.mk.injEq] at hv;exact hv.2.symm))
  exact key _ h _ _ rfl
 case slice t x lo hi mx =>
  split at h
  ·exact keep h
  ·cases h
 case fieldAddr=>exact keep h
 case indexAddr=>exact keep h
 case lookup=>exact keep h
 case call c =>
  cases hc:c.callee with
  | builtin b =>
   rw [hc] at hq
   simp only [tH,hc] at h
   cases b <;> simp only [Bool.false_eq_true] at hq
   all_goals
    unfold jQ at h
    split at h
    all_goals first | cases h | exact keep h | skip
    all_goals (first | (simp_all;done) | (simp_all;obtain ⟨_,_,_,rfl⟩:=h;rfl))
  | value x=>rw [hc] at hq;simp at hq
  | invoke r n=>rw [hc] at hq;simp at hq
theorem Oo {fr:Frame} {H H':Heap} {o:Oper} {v:AV} (hq:jA C o = true) (h:out1 C cf nt ops o fr H = some (v,H')):H' = H:=by
 unfold out1 at h
 split at h
 ·split at h
  ·exact quiet_step hq h
  ·simp only [Option.some.injEq,Prod.mk.injEq] at h;exact h.2.symm
  ·cases h
 ·cases h
theorem RX {fr:Frame} {H H':Heap} {o:Oper} {v:AV} (hf:lD C o = true) (h:out1 C cf nt ops o fr H = some (v,H')):H' = H∧∀ H2,out1 C cf nt ops o fr H2 = some (v,H2):=by
 unfold out1 at h ⊢
 split at h
 ·rename_i hd
  simp only [hd,if_true]
  split at h
  ·rename_i hw
   obtain ⟨h1,h2⟩:=He hf h
   exact ⟨h1,h2⟩
  ·rename_i hw
   simp only [Option.some.injEq,Prod.mk.injEq] at h
   obtain ⟨rfl,rfl⟩:=h
   exact ⟨rfl,fun _=>rfl⟩
  ·cases h
 ·cases h
theorem zM {x y:Oper} (h:oJ ops x y = true):(∀ d,x.dst = some d→d ∉ looks ops y∧y.dst ≠ some d)∧(∀ d,y.dst = some d→d ∉ looks ops x):=by
 unfold oJ at h
 simp only [Bool.and_eq_true] at h
 obtain ⟨h1,h2⟩:=h
 refine ⟨fun d hd=>?_,fun d hd=>?_⟩
 ·rw [hd] at h1
  simp at h1
  exact h1
 ·rw [hd] at h2
  simp at h2
  exact h2
theorem WZ {fr fr':Frame} {o:Oper} (h:∀ t ∈ looks ops o,au fr t = au fr' t):∀ x ∈ o.op.operands,aF C fr x = aF C fr' x:=by
 intro x hx
 refine Dc fun t ht=>h t ?_
 subst ht
 exact List.mem_append_left _ (List.mem_filterMap.2 ⟨.tmp t,by simpa using hx,rfl⟩)
theorem I9 {fr fr':Frame} {o:Oper} (h:∀ x ∈ o.op.operands,aF C fr x = aF C fr' x):ig C fr o = ig C fr' o:=by
 obtain ⟨dst,op,type,pos,after,guard⟩:=o
 cases op <;> try rfl
 case call c =>
  simp only [ig]
  cases hc:c.callee with
  | builtin b=>rfl
  | value x =>
   simp only
   have hx:x ∈ (Call.operands c):=by simp [Call.operands,hc]
   have hargs:∀ ts,dV C fr c.args.toList ts = dV C fr' c.args.toList ts:=fun ts=>qN fun y hy=>h y (by
    simp only [Op.operands,Call.operands,hc]
    exact Array.mem_append.2 (.inr (Array.mem_toList_iff.1 hy)))
   simp only [hargs]
   rw [h x hx]
  | invoke r n=>rfl
theorem Ja {fr fr':Frame} {o:Oper} (h:∀ x ∈ o.op.operands,aF C fr x = aF C fr' x):pushes C fr o = pushes C fr' o:=by
 obtain ⟨dst,op,type,pos,after,guard⟩:=o
 cases op <;> try rfl
 case assign x =>
  simp only [pushes]
  rw [rQ (h x (by simp [Op.operands]))]
theorem yG {fr fr':Frame} {H H':Heap} {o:Oper} (h:∀ t ∈ looks ops o,au fr t = au fr' t):bP C ops fr H H' o = bP C ops fr' H H' o:=by
 have hx:=WZ (C:=C) h
 have hv:iR C fr o = iR C fr' o:=List.map_congr_left fun x hx'=>hx x (by simpa using hx')
 unfold bP touched mentioned
 rw [zL h,hv,I9 hx,Ja hx]
inductive aaV (C:Ctx) (cf:Cf) (nt:Nat) (ops:Array Oper) (o:Oper) (fr:Frame) (H:Heap) (v:AV) (H':Heap):Prop
 | free (hm:∀ H2,bP C ops fr H2 H2 o = .none) (he:H' = H) (ha:∀ H2,out1 C cf nt ops o fr H2 = some (v,H2))
 | quiet (l:List Nat) (hm:∀ H2,bP C ops fr H2 H2 o = .look l) (he:H' = H) (ha:∀ H2:Heap,(∀ x ∈ l,H2[x]? = H[x]?)→out1 C cf nt ops o fr H2 = some (v,H2))
 | loud (t:List Nat) (hm:bP C ops fr H H' o = .touch t H.length) (ho:Only t H H')
 | stay (t c:List Nat) (hm:bP C ops fr H H' o = .stay t c (eqH H H')) (ho:Only t H H') (hl:H'.length = H.length)
  (up:∀ ob,H.length ∉ c→out1 C cf nt ops o fr (H ++ [ob]) = some (v,H' ++ [ob])∧bP C ops fr (H ++ [ob]) (H' ++ [ob]) o = .stay t c (eqH H H'))
  (down:∀ H0 ob,H = H0 ++ [ob]→H0.length ∉ c→∃ H0',H' = H0' ++ [ob]∧H0'.length = H0.length∧out1 C cf nt ops o fr H0 = some (v,H0')∧bP C ops fr H0 H0' o = .stay t c (eqH H H'))
 | push (ob:Option Obj) (hm:∀ H2:Heap,H2.length = H.length→bP C ops fr H2 (H2 ++ [ob]) o = .push H.length) (he:H' = H ++ [ob]) (ha:∀ H2:Heap,H2.length = H.length→out1 C cf nt ops o fr H2 = some (v,H2 ++ [ob]))
theorem RY {fr:Frame} {H H':Heap} {o:Oper} {v:AV} (hp:pushes C fr o = true) (h:step C cf fr H o = some (v,H')) :
  ∃ ob,H' = H ++ [ob]∧∀ H2:Heap,H2.length = H.length→step C cf fr H2 o = some (v,H2 ++ [ob]):=by
 obtain ⟨dst,op,type,pos,after,guard⟩:=o
 cases op <;> simp only [pushes,Bool.false_eq_true] at hp <;> simp only [step] at h ⊢
 case assign x =>
  split at hp
  ·rename_i hv hu
   simp only [hv,ak,hu,Option.some.injEq,Prod.mk.injEq] at h ⊢
   obtain ⟨rfl,rfl⟩:=h
   exact ⟨_,rfl,fun H2 h2=>⟨by rw [h2],rfl⟩⟩
  ·cases hp
 case alloc t =>
  cases hb:rP (bg C t) with
  | none=>rw [hb] at h;cases h
  | some p =>
   rw [hb] at h
   simp only [jf,Option.map_some,Option.some.injEq,Prod.mk.injEq] at h ⊢
   obtain ⟨rfl,rfl⟩:=h
   exact ⟨_,rfl,fun H2 h2=>⟨by rw [h2],rfl⟩⟩
 case box t x =>
  cases hb:rP (fJ C fr t x) with
  | none=>rw [hb] at h;cases h
  | some p =>
   rw [hb] at h
   simp only [Option.bind_some] at h ⊢
   split at h
   ·rename_i hc
    simp only [jf,Option.some.injEq,Prod.mk.injEq] at h
    obtain ⟨rfl,rfl⟩:=h
    exact ⟨_,rfl,fun H2 h2=>by rw [if_pos hc];simp [jf,h2]⟩
   ·cases h
 case makeMap t r =>
  split at h
  ·rename_i hc
   simp only [sH,Option.some.injEq,Prod.mk.injEq] at h
   obtain ⟨rfl,rfl⟩:=h
   exact ⟨_,rfl,fun H2 h2=>by rw [if_pos hc];simp [sH,h2]⟩
  ·cases h
 case makeSlice t l c =>
  unfold kV at h ⊢
  split at h
  ·rename_i e l' c' hu hl hc
   split at h
   ·rename_i hk
    cases hz:oK C e l'.toNat with
    | none=>rw [hz] at h;cases h
    | some p =>
     rw [hz] at h
     simp only [Option.map_some,Option.some.injEq,Prod.mk.injEq] at h
     obtain ⟨rfl,rfl⟩:=h
     refine ⟨_,rfl,fun H2 h2=>?_⟩
     simp only [if_pos hk,Option.map_some,h2]
   ·cases h
  ·cases h
theorem KR (hcf:oI C cf) {o:Oper} {fr:Frame} {H H':Heap} {v:AV} (h:out1 C cf nt ops o fr H = some (v,H')):aaV C cf nt ops o fr H v H':=by
 by_cases hw:mD ops fr o = some true
 ·have hstep:∀ {H2:Heap} {v2:AV} {H3:Heap},step C cf fr H2 o = some (v2,H3)→out1 C cf nt ops o fr H2 = some (v2,H3):=by
   intro H2 v2 H3 hs
   unfold out1 at h ⊢
   split at h
   ·rename_i hd
    rw [if_pos hd,hw]
    exact hs
   ·cases h
  have h0:step C cf fr H o = some (v,H'):=by
   unfold out1 at h
   split at h
   ·rw [hw] at h
    exact h
   ·cases h
  by_cases hf:lD C o = true
  ·obtain ⟨h1,h2⟩:=RX hf h
   exact .free (fun H2=>by simp [bP,hw,hf]) h1 h2
  ·by_cases hq:jA C o = true
   ·have e:=Oo hq h
    exact .quiet (aA (iR C fr o)) (fun H2=>by simp [bP,hw,hf,hq]) e fun H2 hx=>hstep (Uy hq (by simpa using hf) h0 hx)
   ·by_cases hp:pushes C fr o = true
    ·obtain ⟨ob,h1,h2⟩:=RY hp h0
     exact .push ob (fun H2 h3=>by simp [bP,hw,hf,hq,hp,h3]) h1 fun H2 h3=>hstep (h2 H2 h3)
    ·by_cases ha:jE o = true
     ·have hA:∃ x,o.op = .assign x:=by
       unfold jE at ha
       split at ha
       ·rename_i x hx;exact ⟨x,hx⟩
       ·cases ha
      obtain ⟨x,hx⟩:=hA
      have key:∀ H2:Heap,step C cf fr H2 o = some (fJ C fr o.type x,H2):=by
       intro H2
       simp only [step,hx]
       unfold ak
       split
       ·rename_i h1 h2
        simp [pushes,hx,h1,h2] at hp
       ·rfl
      rw [key H] at h0
      simp only [Option.some.injEq,Prod.mk.injEq] at h0
      obtain ⟨rfl,rfl⟩:=h0
      exact .free (fun H2=>by simp [bP,hw,hf,hq,hp,ha]) rfl fun H2=>hstep (key H2)
     ·by_cases hs:((ig C fr o).isSome && H'.length == H.length) = true
      ·simp only [Bool.and_eq_true,beq_iff_eq] at hs
       obtain ⟨hs,hlen⟩:=hs
       obtain ⟨⟨f,args⟩,hcv⟩:=Option.isSome_iff_exists.1 hs
       -- a call
       have hcall:∀ H2:Heap,step C cf fr H2 o = if bodied C f then cf f args H2 else none:=by
        intro H2
        unfold ig at hcv
        split at hcv
        ·rename_i c hop
         split at hcv
         ·rename_i x aga
          split at hcv
          ·rename_i f' caps he
           simp only [Option.some.injEq,Prod.mk.injEq] at hcv
           obtain ⟨rfl,rfl⟩:=hcv
           simp only [step,hop,tH,aga,he]
          ·cases hcv
         ·cases hcv
        ·cases hcv
       have hbd:bodied C f = true:=by
        rw [hcall H] at h0
        split at h0
        ·assumption
        ·cases h0
       have Oq:∀ H2:Heap,step C cf fr H2 o = cf f args H2:=fun H2=>by rw [hcall H2,if_pos hbd]
       have h1:cf f args H = some (v,H'):=by rw [← Oq H];exact h0
       obtain ⟨hup,hdown⟩:=hcf.2 f args H v H' h1 hlen
       have ht:∀ H2:Heap,touched C fr H2 o = fD C f args H2:=fun H2=>by simp only [touched,hcv]
       have hme:∀ H2:Heap,mentioned C fr H2 o = bZ C f args H2:=fun H2=>by simp only [mentioned,hcv]
       have hmk:∀ H2 H3:Heap,H3.length = H2.length→bP C ops fr H2 H3 o = .stay (fD C f args H2) (bZ C f args H2) (eqH H2 H3):=fun H2 H3 h3=>by
        simp [bP,hw,hf,hq,hp,ha,hcv,h3,ht,hme]
       refine .stay _ _ (hmk H H' hlen) ?_ hlen ?_ ?_
       ·rw [← ht];exact GZ hcf.1 h0
       ·intro ob hn
        obtain ⟨_,e1,e2,_⟩:=vV (C:=C) (But.push H ob) hn
        refine ⟨hstep (by rw [Oq];exact hup ob hn),?_⟩
        rw [hmk _ _ (by simp [hlen]),e1,e2,KT]
       ·intro H0 ob he hn
        subst he
        obtain ⟨H0',h2,h3,h4⟩:=hdown H0 ob rfl hn
        obtain ⟨_,e1,e2,_⟩:=vV (C:=C) (But.pop H0 ob) hn
        refine ⟨H0',h2,h3,hstep (by rw [Oq];exact h4),?_⟩
        rw [hmk _ _ h3,e1,e2,h2,KT]
      ·exact .loud (touched C fr H o) (by simp [bP,hw,hf,hq,hp,ha];simpa using hs) (GZ hcf.1 h0)
 ·have hm:∀ H2,bP C ops fr H2 H2 o = .none:=fun H2=>by
   unfold bP
   split
   ·rename_i hw';exact absurd hw' hw
   ·rfl
  unfold out1 at h
  split at h
  ·rename_i hd
   split at h
   ·rename_i hw';exact absurd hw' hw
   ·rename_i hw'
    simp only [Option.some.injEq,Prod.mk.injEq] at h
    obtain ⟨rfl,rfl⟩:=h
    exact .free hm rfl fun H2=>by simp [out1,hd,hw']
   ·cases h
  ·cases h
theorem yh {l t:List Nat} {n:Nat} (h:kX l t n = true):∀ x ∈ l,x ∉ t∧x < n:=by
 unfold kX at h
 simp only [Bool.and_eq_true,List.all_eq_true,decide_eq_true_eq] at h
 exact fun x hx=>⟨iF.1 h.1 x hx,h.2 x hx⟩
theorem Only.stay {l t:List Nat} {H H':Heap} (ho:Only t H H') (hl:H'.length = H.length) (hd:disjoint l t = true):∀ z ∈ l,H'[z]? = H[z]?:=by
 intro z hz
 by_cases h:z < H.length
 ·exact ho.2 z h (iF.1 hd z hz)
 ·rw [List.getElem?_eq_none (by omega),List.getElem?_eq_none (by omega)]
theorem P8 {l:List Nat} {H:Heap} {ob:Option Obj} (hd:(!l.contains H.length) = true):∀ z ∈ l,(H ++ [ob])[z]? = H[z]?:=by
 intro z hz
 refine But.push H ob z fun e=>?_
 subst e
 simp [hz] at hd
theorem aaW (hcf:oI C cf) {x y:Oper} {fr:Frame} {H H1 H2:Heap} {v u:AV} (hxy:oJ ops x y = true) (hb:bear (bP C ops fr H H1 x) (bP C ops (kM fr x.dst v) H1 H2 y) = true)
  (hx:out1 C cf nt ops x fr H = some (v,H1)) (hy:out1 C cf nt ops y (kM fr x.dst v) H1 = some (u,H2)) :
  ∃ H1',out1 C cf nt ops y fr H = some (u,H1')∧out1 C cf nt ops x (kM fr y.dst u) H1' = some (v,H2) ∧
   bP C ops fr H H1' y = bP C ops (kM fr x.dst v) H1 H2 y∧bP C ops (kM fr y.dst u) H1' H2 x = bP C ops fr H H1 x:=by
 obtain ⟨h1,h2⟩:=zM hxy
 have hyl:∀ t ∈ looks ops y,au (kM fr x.dst v) t = au fr t:=fun t ht=>KQ fun e=>(h1 t e).1 ht
 have hxl:∀ t ∈ looks ops x,au (kM fr y.dst u) t = au fr t:=fun t ht=>KQ fun e=>h2 t e ht
 rw [yF hyl] at hy
 have hy':∀ H H',bP C ops (kM fr x.dst v) H H' y = bP C ops fr H H' y:=fun H H'=>yG hyl
 have hx':∀ H,out1 C cf nt ops x (kM fr y.dst u) H = out1 C cf nt ops x fr H:=fun H=>yF hxl
 have hx'':∀ H H',bP C ops (kM fr y.dst u) H H' x = bP C ops fr H H' x:=fun H H'=>yG hxl
 simp only [hy'] at hb
 simp only [hx',hx'',hy']
 rcases KR hcf hx with ⟨hm,rfl,ha⟩ | ⟨l,hm,rfl,ha⟩ | ⟨t,hm,ho⟩ | ⟨t,c,hm,ho,hl,up,down⟩ | ⟨ob,hm,rfl,ha⟩
 ·exact ⟨H2,hy,ha H2,rfl,by rw [hm,hm]⟩
 ·rcases KR hcf hy with ⟨hm2,rfl,ha2⟩ | ⟨l2,hm2,rfl,ha2⟩ | ⟨t2,hm2,ho2⟩ | ⟨t2,c2,hm2,ho2,hl2,up2,P9⟩ | ⟨ob2,hm2,rfl,ha2⟩
  ·exact ⟨_,ha2 _,hx,rfl,rfl⟩
  ·exact ⟨_,hy,hx,rfl,rfl⟩
  ·rw [hm,hm2] at hb
   have hl:=yh (by simpa [bear] using hb)
   exact ⟨H2,hy,ha H2 fun z hz=>ho2.2 z (hl z hz).2 (hl z hz).1,rfl,by rw [hm,hm]⟩
  ·rw [hm,hm2] at hb
   rcases Bool.or_eq_true_iff.1 (show (_ || _) = true from hb) with hb | hb
   ·exact ⟨H2,hy,ha H2 (ho2.stay hl2 hb),rfl,by rw [hm,hm]⟩
   ·obtain rfl:=yH hb
    exact ⟨_,hy,hx,rfl,rfl⟩
  ·rw [hm,hm2 _ rfl] at hb
   exact ⟨_,hy,ha _ (P8 hb),rfl,by rw [hm,hm]⟩
 ·rcases KR hcf hy with ⟨hm2,rfl,ha2⟩ | ⟨l2,hm2,rfl,ha2⟩ | ⟨t2,hm2,ho2⟩ | ⟨t2,c2,hm2,ho2,hl2,up2,P9⟩ | ⟨ob2,hm2,rfl,ha2⟩
  ·exact ⟨H,ha2 H,hx,by rw [hm2,hm2],rfl⟩
  ·rw [hm,hm2] at hb
   have hl:=yh (by simpa [bear] using hb)
   exact ⟨H,ha2 H fun z hz=>(ho.2 z (hl z hz).2 (hl z hz).1).symm,hx,by rw [hm2,hm2],rfl⟩
  ·rw [hm,hm2] at hb
   simp [bear] at hb
  ·rw [hm,hm2] at hb
   simp [bear] at hb
  ·rw [hm,hm2 _ rfl] at hb
   simp [bear] at hb
 ·rcases KR hcf hy with ⟨hm2,rfl,ha2⟩ | ⟨l2,hm2,rfl,ha2⟩ | ⟨t2,hm2,ho2⟩ | ⟨t2,c2,hm2,ho2,hl2,up2,P9⟩ | ⟨ob2,hm2,rfl,ha2⟩
  ·exact ⟨H,ha2 H,hx,by rw [hm2,hm2],rfl⟩
  ·rw [hm,hm2] at hb
   rcases Bool.or_eq_true_iff.1 (show (_ || _) = true from hb) with hb | hb
   ·exact ⟨H,ha2 H fun z hz=>(ho.stay hl hb z hz).symm,hx,by rw [hm2,hm2],rfl⟩
   ·obtain rfl:=yH hb
    exact ⟨_,hy,hx,rfl,rfl⟩
  ·rw [hm,hm2] at hb
   simp [bear] at hb
  ·rw [hm,hm2] at hb
   have hb:=Bool.and_eq_true_iff.1 (show (_ && _) = true from hb)
   obtain rfl:=yH hb.1
   obtain rfl:=yH hb.2
   exact ⟨_,hy,hx,rfl,rfl⟩
  ·rw [hm,hm2 _ rfl] at hb
   have hn:H.length ∉ c:=by
    rw [← hl]
    simpa [bear] using hb
   obtain ⟨h3,h4⟩:=up ob2 hn
   exact ⟨H ++ [ob2],ha2 H hl.symm,h3,by rw [hm2 H hl.symm,hm2 _ rfl],by rw [h4,hm]⟩
 ·rcases KR hcf hy with ⟨hm2,rfl,ha2⟩ | ⟨l2,hm2,rfl,ha2⟩ | ⟨t2,hm2,ho2⟩ | ⟨t2,c2,hm2,ho2,hl2,up2,P9⟩ | ⟨ob2,hm2,rfl,ha2⟩
  ·exact ⟨H,ha2 H,hx,by rw [hm2,hm2],rfl⟩
  ·rw [hm _ rfl,hm2] at hb
   exact ⟨H,ha2 H fun z hz=>(P8 hb z hz).symm,hx,by rw [hm2,hm2],rfl⟩
  ·rw [hm _ rfl,hm2] at hb
   simp [bear] at hb
  ·rw [hm _ rfl,hm2] at hb
   have hn:H.length ∉ c2:=by simpa [bear] using hb
   obtain ⟨H0',h3,h4,h5,h6⟩:=P9 H ob rfl hn
   subst h3
   exact ⟨H0',h5,ha H0' h4,by rw [h6,hm2],by rw [hm _ h4,hm _ rfl]⟩
  ·rw [hm _ rfl,hm2 _ rfl] at hb
   simp [bear] at hb
theorem KU:∀ {l:List Oper} {fr fr2:Frame} {H:Heap} {fr':Frame} {H':Heap} {ms:List Mark},FEq fr fr2→jS C cf nt ops l fr H = some (fr',H',ms)→∃ W9,jS C cf nt ops l fr2 H = some (W9,H',ms)∧FEq W9 fr'
 | [],fr,fr2,H,fr',H',ms,he,h=>by
  simp only [jS,Option.some.injEq,Prod.mk.injEq] at h
  obtain ⟨rfl,rfl,rfl⟩:=h
  exact ⟨fr2,rfl,fun i=>(he i).symm⟩
 | o :: r,fr,fr2,H,fr',H',ms,he,h=>by
  simp only [jS] at h ⊢
  have hmk:∀ H H',bP C ops fr2 H H' o = bP C ops fr H H' o:=fun H H'=>(yG (fr:=fr) fun t _=>he t).symm
  rw [← yF (fr:=fr) fun t _=>he t]
  simp only [hmk]
  split at h
  ·rename_i v H1 hv
   split at h
   ·rename_i fr1 H2 ms' hr
    simp only [Option.some.injEq,Prod.mk.injEq] at h
    obtain ⟨rfl,rfl,rfl⟩:=h
    obtain ⟨W9,h1,h2⟩:=KU (he.put o.dst v) hr
    exact ⟨W9,by simp only [h1],h2⟩
   ·cases h
  ·cases h
def opAt (ops:Array Oper) (i:Nat):Oper:=ops.getD i default
theorem front (hcf:oI C cf) {mk:Nat→Mark} {i:Nat} {B:List Nat}:∀ {A:List Nat} {fr:Frame} {H:Heap} {fr':Frame} {H':Heap},
  jS C cf nt ops ((A ++ i :: B).map (opAt ops)) fr H = some (fr',H',(A ++ i :: B).map mk)→(∀ j ∈ A,oJ ops (opAt ops j) (opAt ops i) = true∧bear (mk j) (mk i) = true) →
  ∃ v H1,out1 C cf nt ops (opAt ops i) fr H = some (v,H1)∧bP C ops fr H H1 (opAt ops i) = mk i ∧
   ∃ Zc,jS C cf nt ops ((A ++ B).map (opAt ops)) (kM fr (opAt ops i).dst v) H1 = some (Zc,H',(A ++ B).map mk)∧FEq Zc fr'
 | [],fr,H,fr',H',h,_=>by
  simp only [List.nil_append,List.map_cons,jS] at h
  split at h
  ·rename_i v H1 hv
   split at h
   ·rename_i fr1 H2 ms hr
    simp only [Option.some.injEq,Prod.mk.injEq,List.cons.injEq] at h
    obtain ⟨rfl,rfl,h1,rfl⟩:=h
    exact ⟨v,H1,hv,h1,fr1,hr,fun _=>rfl⟩
   ·cases h
  ·cases h
 | a :: A,fr,H,fr',H',h,hA=>by
  simp only [List.cons_append,List.map_cons,jS] at h
  split at h
  ·rename_i u Ha hu
   split at h
   ·rename_i fr1 H2 ms hr
    simp only [Option.some.injEq,Prod.mk.injEq,List.cons.injEq] at h
    obtain ⟨rfl,rfl,hma,rfl⟩:=h
    obtain ⟨v,H1,h1,hmi,Zc,h2,h3⟩:=front hcf hr fun j hj=>hA j (by simp [hj])
    obtain ⟨hap,hbr⟩:=hA a (by simp)
    obtain ⟨H1',h4,h5,h6,h7⟩:=aaW hcf hap (by rw [hma,hmi];exact hbr) hu h1
    have hne:∀ k,(opAt ops a).dst = some k→(opAt ops i).dst ≠ some k:=fun k hk=>((zM hap).1 k hk).2
    obtain ⟨fr3,h8,h9⟩:=KU (RU fr u v hne) h2
    refine ⟨v,H1',h4,h6.trans hmi,fr3,?_,fun k=>(h9 k).trans (h3 k)⟩
    simp only [List.cons_append,List.map_cons,jS]
    rw [h5]
    simp only [h8,h7,hma]
   ·cases h
  ·cases h
theorem Qa:∀ {l:List Oper} {fr:Frame} {H:Heap} {fr':Frame} {H':Heap},kW C cf nt ops l fr H = some (fr',H')→∃ ms,jS C cf nt ops l fr H = some (fr',H',ms)
 | [],fr,H,fr',H',h=>by
  simp only [kW,Option.some.injEq,Prod.mk.injEq] at h
  obtain ⟨rfl,rfl⟩:=h
  exact ⟨[],rfl⟩
 | o :: r,fr,H,fr',H',h=>by
  rw [vW] at h
  simp only [jS]
  split at h
  ·rename_i v H1 hv
   obtain ⟨ms,hm⟩:=Qa h
   refine ⟨bP C ops fr H H1 o :: ms,?_⟩
   rw [hv]
   simp only [hm]
  ·cases h
theorem uI:∀ {l:List Oper} {fr:Frame} {H:Heap} {fr':Frame} {H':Heap} {ms:List Mark},jS C cf nt ops l fr H = some (fr',H',ms) →
  ms.length = l.length∧∀ (i:Nat) (o:Oper) (m:Mark),l[i]? = some o→ms[i]? = some m→∃ fr H H',m = bP C ops fr H H' o
 | [],fr,H,fr',H',ms,h=>by
  simp only [jS,Option.some.injEq,Prod.mk.injEq] at h
  obtain ⟨_,_,rfl⟩:=h
  simp
 | o :: r,fr,H,fr',H',ms,h=>by
  simp only [jS] at h
  split at h
  ·split at h
   ·rename_i hr
    simp only [Option.some.injEq,Prod.mk.injEq] at h
    obtain ⟨_,_,rfl⟩:=h
    obtain ⟨h1,h2⟩:=uI hr
    refine ⟨by simp [h1],fun i p m hp hm=>?_⟩
    cases i with
    | zero =>
     simp only [List.getElem?_cons_zero,Option.some.injEq] at hp hm
     subst hp;subst hm
     exact ⟨fr,H,_,rfl⟩
    | succ i=>exact h2 i p m (by simpa using hp) (by simpa using hm)
   ·cases h
  ·cases h
theorem Hf {fr:Frame} {H H':Heap} {o:Oper} (h:lD C o = true):bP C ops fr H H' o = .none:=by
 unfold bP;split <;> simp [h]
theorem Ep {fr:Frame} {H H':Heap} {o:Oper} (h:jA C o = true):bP C ops fr H H' o = .none∨∃ l,bP C ops fr H H' o = .look l:=by
 unfold bP
 split
 ·split
  ·exact .inl rfl
  ·exact .inr ⟨aA (iR C fr o),rfl⟩
 ·exact .inl rfl
theorem KW {x y:Oper} (h:Ot C ops x y = true) (fr fr':Frame) (H H2 H' H3:Heap):oJ ops x y = true∧bear (bP C ops fr H H2 x) (bP C ops fr' H' H3 y) = true:=by
 unfold Ot at h
 simp only [Bool.and_eq_true,Bool.or_eq_true] at h
 refine ⟨h.1,?_⟩
 rcases h.2 with (h | h) | ⟨h1,h2⟩
 ·rw [Hf h];cases bP C ops fr' H' H3 y <;> rfl
 ·rw [Hf h];cases bP C ops fr H H2 x <;> rfl
 ·rcases Ep (ops:=ops) (fr:=fr) (H:=H) (H':=H2) h1 with e | ⟨l,e⟩ <;> rcases Ep (ops:=ops) (fr:=fr') (H:=H') (H':=H3) h2 with e2 | ⟨l2,e2⟩ <;> rw [e,e2] <;> rfl
end
end Go.AM
namespace Go.AM
section before
theorem zN {α β:Type} (m:Array β→α→β):∀ (l:List α) (acc:Array β),
  (l.foldl (fun acc o=>acc.push (m acc o)) acc).size = acc.size + l.length ∧
  (∀ k,k < acc.size→(l.foldl (fun acc o=>acc.push (m acc o)) acc)[k]? = acc[k]?) ∧
  ∀ k o,l[k]? = some o→∃ acc':Array β,acc'.size = acc.size + k∧(∀ j,j < acc'.size→(l.foldl (fun acc o=>acc.push (m acc o)) acc)[j]? = acc'[j]?) ∧
   (l.foldl (fun acc o=>acc.push (m acc o)) acc)[acc.size + k]? = some (m acc' o)
 | [],acc=>⟨by simp,fun _ _=>rfl,fun k o h=>by simp at h⟩
 | a :: r,acc=>by
  obtain ⟨h1,h2,h3⟩:=zN m r (acc.push (m acc a))
  simp only [List.foldl_cons]
  refine ⟨by rw [h1];simp;omega,fun k hk=>?_,fun k o h=>?_⟩
  ·rw [h2 k (by simp;omega),Array.getElem?_push_lt hk,Array.getElem?_eq_getElem hk]
  ·cases k with
   | zero =>
    simp only [List.getElem?_cons_zero,Option.some.injEq] at h
    subst h
    refine ⟨acc,rfl,fun j hj=>?_,?_⟩
    ·rw [h2 j (by simp;omega),Array.getElem?_push_lt hj,Array.getElem?_eq_getElem hj]
    ·rw [h2 _ (by simp)]
     simp
   | succ k =>
    simp only [List.getElem?_cons_succ] at h
    obtain ⟨acc',h4,h5,h6⟩:=h3 k o h
    simp only [Array.size_push] at h4 h6
    exact ⟨acc',by omega,h5,by rw [show acc.size + (k + 1) = acc.size + 1 + k by omega];exact h6⟩
theorem KX {acc:Array Nat} {j:Nat}:∀ (l:List Edge) (s0:Nat),((l.foldl (fun s e=>if Region.binds .any e then s ||| 2 ^ e.on ||| acc.getD e.on 0 else s) s0).testBit j) = true →
  s0.testBit j = true∨∃ e ∈ l,Region.binds .any e = true∧(j = e.on∨(acc.getD e.on 0).testBit j = true)
 | [],s0,h=>.inl h
 | e :: r,s0,h=>by
  simp only [List.foldl_cons] at h
  rcases KX r _ h with h | ⟨e',h1,h2⟩
  ·split at h
   ·rename_i hb
    rw [Nat.testBit_or,Nat.testBit_or,Nat.testBit_two_pow] at h
    simp only [Bool.or_eq_true,decide_eq_true_eq] at h
    rcases h with (h | h) | h
    ·exact .inl h
    ·exact .inr ⟨e,by simp,hb,.inl h.symm⟩
    ·exact .inr ⟨e,by simp,hb,.inr h⟩
   ·exact .inl h
  ·exact .inr ⟨e',by simp [h1],h2⟩
theorem Ou {ops:Array Oper} {i j:Nat} {o:Oper} (hi:ops[i]? = some o) (he:DT i o = true) (h:((Region.before ops).getD i 0).testBit j = true) :
  ∃ e ∈ o.after.toList,Region.binds .any e = true∧(j = e.on∨((Region.before ops).getD e.on 0).testBit j = true):=by
 have hfold:=zN (fun (acc:Array Nat) (o:Oper)=>o.after.foldl (fun s e=>if Region.binds .any e then s ||| 2 ^ e.on ||| acc.getD e.on 0 else s) 0) ops.toList #[]
 have hb:Region.before ops = ops.toList.foldl (fun acc o=>acc.push (o.after.foldl (fun s e=>if Region.binds .any e then s ||| 2 ^ e.on ||| acc.getD e.on 0 else s) 0)) #[]:=by
  unfold Region.before
  rw [Array.foldl_toList]
 rw [← hb] at hfold
 obtain ⟨_,_,h3⟩:=hfold
 obtain ⟨acc',h4,h5,h6⟩:=h3 i o (by rw [Array.getElem?_toList];exact hi)
 simp only [List.size_toArray,List.length_nil,Nat.zero_add] at h4 h6
 rw [Array.getD_eq_getD_getElem?,h6,Option.getD_some,← Array.foldl_toList] at h
 rcases KX _ _ h with h | ⟨e,h7,h8,h9⟩
 ·simp at h
 ·refine ⟨e,h7,h8,?_⟩
  rcases h9 with h9 | h9
  ·exact .inl h9
  ·right
   have hlt:e.on < i:=by
    unfold DT at he
    have:=List.all_eq_true.1 he e h7
    simpa [h8] using this
   rw [Array.getD_eq_getD_getElem?,h5 e.on (by omega),← Array.getD_eq_getD_getElem?]
   exact h9
theorem sJ:∀ {l:List Oper} {k:Nat},oV k l = true→∀ (i:Nat) (o:Oper),l[i]? = some o→DT (k + i) o = true
 | [],k,_,i,o,h=>by simp at h
 | a :: r,k,he,i,o,h=>by
  simp only [oV,Bool.and_eq_true] at he
  cases i with
  | zero =>
   simp only [List.getElem?_cons_zero,Option.some.injEq] at h
   subst h
   exact he.1
  | succ i =>
   have:=sJ he.2 i o (by simpa using h)
   rwa [show k + (i + 1) = k + 1 + i by omega]
end before
section
variable {C:Ctx} {cf:Cf} {T:Nat→Nat→Prop} {m nt:Nat} {K0:Kx} {ops:Array Oper}
theorem Now.feq {fr fr':Frame} {H:Heap} {a:Act} {w:World} (h:Now C T m K0 nt fr H a w) (he:FEq fr fr'):Now C T m K0 nt fr' H a w:=by
 obtain ⟨μ,hI,hE,hf,hn,hd⟩:=h
 exact ⟨μ,hI,hE,fun i=>by rw [← he i];exact hf i,hn,hd⟩
def rest (ops:Array Oper) (listed:Array Bool):List Nat:=(List.range ops.size).filter fun i=>!listed.getD i true
theorem mF {i:Nat} (h:i < ops.size):ops[i]? = some (opAt ops i):=by
 simp [opAt,Array.getD_eq_getD_getElem?,h]
theorem tK {listed:Array Bool} {i:Nat}:i ∈ rest ops listed ↔ i < ops.size∧listed.getD i true = false:=by
 simp [rest]
theorem Df (listed:Array Bool):(rest ops listed).Pairwise (· < ·):=List.Pairwise.filter _ List.pairwise_lt_range
theorem mem_ready {listed:Array Bool} {i:Nat}:i ∈ Region.ready .any ops listed ↔ i ∈ rest ops listed∧((ops[i]?).map (·.after.all fun e=>!Region.binds .any e || listed.getD e.on false)).getD false = true:=by
 unfold Region.ready
 rw [List.mem_filter,tK]
 simp only [List.mem_range,Bool.and_eq_true,Bool.not_eq_true']
 exact and_assoc.symm
theorem Es {listed:Array Bool} {i:Nat} (h:i < listed.size):listed.getD i true = listed.getD i false:=by
 simp [Array.getD_eq_getD_getElem?,h]
theorem KY {listed:Array Bool} (hs:listed.size = ops.size) (hed:oV 0 ops.toList = true) {i:Nat} {r:List Nat} (h:rest ops listed = i :: r):i ∈ Region.ready .any ops listed:=by
 have hi:i ∈ rest ops listed:=by rw [h];simp
 obtain ⟨h1,h2⟩:=tK.1 hi
 refine mem_ready.2 ⟨hi,?_⟩
 rw [mF h1]
 simp only [Option.map_some,Option.getD_some,Array.all_eq_true_iff_forall_mem,Bool.or_eq_true,Bool.not_eq_true']
 intro e he
 by_cases hb:Region.binds .any e = true
 ·right
  have hok:=sJ hed i (opAt ops i) (by rw [Array.getElem?_toList];exact mF h1)
  rw [Nat.zero_add] at hok
  have hlt:e.on < i:=by
   have:=List.all_eq_true.1 hok e (Array.mem_toList_iff.2 he)
   simpa [hb] using this
  rw [← Es (by omega)]
  by_cases hl:listed.getD e.on true = true
  ·exact hl
  ·exfalso
   have hm:e.on ∈ rest ops listed:=tK.2 ⟨by omega,by simpa using hl⟩
   have hso:=Df (ops:=ops) listed
   rw [h] at hm hso
   rcases List.mem_cons.1 hm with h4 | h4
   ·omega
   ·have:=(List.pairwise_cons.1 hso).1 _ h4
    omega
 ·left
  simpa using hb
def Closed (ops:Array Oper) (listed:Array Bool):Prop:=∀ i,i < ops.size→listed.getD i false = true→∀ j,((Region.before ops).getD i 0).testBit j = true→listed.getD j false = true
theorem KZ {listed:Array Bool} {i j:Nat} {d:Bool} (hi:i < listed.size):(listed.setIfInBounds i true).getD j d = if j = i then true else listed.getD j d:=by
 simp only [Array.getD_eq_getD_getElem?]
 split
 ·rename_i h
  subst h
  simp [hi]
 ·rename_i h
  rw [Array.getElem?_setIfInBounds_ne (Ne.symm h)]
theorem any_ok (hcf:DC C cf) (hct:oI C cf) (hed:oV 0 ops.toList = true) {mk:Nat→Mark}
  (UE:∀ i j,i < j→j < ops.size→((Region.before ops).getD j 0).testBit i = true∨(oJ ops (opAt ops i) (opAt ops j) = true∧bear (mk i) (mk j) = true)) {Q:Exit→Act→World→Prop} {fr':Frame} {H':Heap} (hQ:∀ a' w',Now C T m K0 nt fr' H' a' w'→Q .normal a' w') :
  ∀ (fuel:Nat) (listed:Array Bool) (fr fr1:Frame) (H:Heap) (a:Act) (w:World),listed.size = ops.size→Closed ops listed→(rest ops listed).length≤fuel →
   jS C cf nt ops ((rest ops listed).map (opAt ops)) fr H = some (fr1,H',(rest ops listed).map mk)→FEq fr1 fr'→Now C T m K0 nt fr H a w→wpAny C.P .any ops Q fuel listed a w:=by
 -- all listed
 have done:∀ (listed:Array Bool) (fr fr1:Frame) (H:Heap) (a:Act) (w:World),rest ops listed = []→jS C cf nt ops ((rest ops listed).map (opAt ops)) fr H = some (fr1,H',(rest ops listed).map mk)→FEq fr1 fr' →
   Now C T m K0 nt fr H a w→Q .normal a w:=by
  intro listed fr fr1 H a w hr h he hN
  rw [hr] at h
  simp only [List.map_nil,jS,Option.some.injEq,Prod.mk.injEq] at h
  obtain ⟨rfl,rfl,_⟩:=h
  exact hQ a w (hN.feq he)
 intro fuel
 induction fuel with
 | zero =>
  intro listed fr fr1 H a w hs hcl hlen h he hN
  have hr:rest ops listed = []:=List.eq_nil_of_length_eq_zero (Nat.le_zero.1 hlen)
  refine ⟨?_,done listed fr fr1 H a w hr h he hN⟩
  cases hrd:Region.ready .any ops listed with
  | nil=>rfl
  | cons i r =>
   have:i ∈ Region.ready .any ops listed:=by rw [hrd];simp
   have:=(mem_ready.1 this).1
   rw [hr] at this
   simp at this
 | succ fuel ih =>
  intro listed fr fr1 H a w hs hcl hlen h he hN
  refine ⟨fun hrd=>?_,fun i hi=>?_⟩
  ·have hr:rest ops listed = []:=by
    cases hr:rest ops listed with
    | nil=>rfl
    | cons i r =>
     have:=KY hs hed hr
     rw [hrd] at this
     simp at this
   exact done listed fr fr1 H a w hr h he hN
  ·obtain ⟨hir,UF⟩:=mem_ready.1 hi
   obtain ⟨hlt,hnl⟩:=tK.1 hir
   obtain ⟨A,B,hAB⟩:=List.append_of_mem hir
   have hso:=Df (ops:=ops) listed
   rw [hAB] at hso
   have hA:∀ j ∈ A,j < i:=fun j hj=>(List.pairwise_append.1 hso).2.2 j hj i (by simp)
   have hB:∀ j ∈ B,i < j:=fun j hj=>(List.pairwise_cons.1 (List.pairwise_append.1 hso).2.1).1 j hj
   rw [mF hlt] at UF
   simp only [Option.map_some,Option.getD_some,Array.all_eq_true_iff_forall_mem,Bool.or_eq_true,Bool.not_eq_true'] at UF
   have hok:=sJ hed i (opAt ops i) (by rw [Array.getElem?_toList];exact mF hlt)
   rw [Nat.zero_add] at hok
   -- what lies before i is listed
   have hbef:∀ j,((Region.before ops).getD i 0).testBit j = true→listed.getD j false = true:=by
    intro j hj
    obtain ⟨e,h1,h2,h3⟩:=Ou (mF hlt) hok hj
    have he1:listed.getD e.on false = true:=by
     rcases UF e (Array.mem_toList_iff.1 h1) with h4 | h4
     ·rw [h2] at h4;cases h4
     ·exact h4
    rcases h3 with rfl | h3
    ·exact he1
    ·have hlt2:e.on < i:=by
      have:=List.all_eq_true.1 hok e h1
      simpa [h2] using this
     exact hcl e.on (by omega) he1 j h3
   have hfree:∀ j ∈ A,oJ ops (opAt ops j) (opAt ops i) = true∧bear (mk j) (mk i) = true:=by
    intro j hj
    rcases UE j i (hA j hj) hlt with h1 | h1
    ·have h2:=hbef j h1
     have hjr:j ∈ rest ops listed:=by rw [hAB];simp [hj]
     have h3:=(tK.1 hjr).2
     rw [Es (by have:=(tK.1 hjr).1;omega)] at h3
     rw [h3] at h2
     cases h2
    ·exact h1
   rw [hAB] at h
   obtain ⟨v,H1,h1,_,fr2,h2,h3⟩:=front hct h hfree
   have hrest:rest ops (listed.setIfInBounds i true) = A ++ B:=by
    have e1:rest ops (listed.setIfInBounds i true) = (rest ops listed).filter (fun j=>decide (j ≠ i)):=by
     unfold rest
     rw [List.filter_filter]
     refine List.filter_congr fun j hj=>?_
     rw [KZ (by omega)]
     by_cases hji:j = i
     ·simp [hji]
     ·simp [hji]
    rw [e1,hAB,List.filter_append,List.filter_cons]
    simp only [ne_eq,not_true_eq_false,decide_false,Bool.false_eq_true,if_false]
    congr 1
    ·exact List.filter_eq_self.2 fun j hj=>by have:=hA j hj;simp;omega
    ·exact List.filter_eq_self.2 fun j hj=>by have:=hB j hj;simp;omega
   have next:∀ a' w',Now C T m K0 nt (kM fr (opAt ops i).dst v) H1 a' w'→wpAny C.P .any ops Q fuel (listed.setIfInBounds i true) a' w':=by
    intro a' w' hN'
    refine ih _ _ fr2 H1 a' w' (by simp [hs]) ?_ ?_ ?_ (fun k=>(h3 k).trans (he k)) hN'
    ·intro k hk hkl j hj
     rw [KZ (by omega)] at hkl ⊢
     split
     ·rfl
     ·split at hkl
      ·rename_i hki
       subst hki
       exact hbef j hj
      ·exact hcl k hk hkl j hj
    ·rw [hrest]
     have:(rest ops listed).length = A.length + B.length + 1:=by rw [hAB];simp;omega
     simp
     omega
    ·rw [hrest]
     exact h2
   unfold wpOp
   rw [mF hlt]
   simp only
   obtain ⟨μ,hI,hE0,hf,hn,hdf⟩:=id hN
   unfold out1 at h1
   split at h1
   ·rename_i hdst
    split at h1
    ·rename_i hw
     rw [xA hf hw]
     simp only [if_true]
     left
     exact G7 hcf rfl h1 hN hdst fun u w' hN'=>next _ _ hN'
    ·rename_i hw
     rw [xA hf hw]
     simp only [Bool.false_eq_true,if_false]
     simp only [Option.some.injEq,Prod.mk.injEq] at h1
     obtain ⟨rfl,rfl⟩:=h1
     exact next _ _ (KO hN hdst)
    ·cases h1
   ·cases h1
theorem map_range {ops:Array Oper}:(List.range ops.size).map (opAt ops) = ops.toList:=by
 apply List.ext_getElem?
 intro i
 rw [List.getElem?_map]
 by_cases h:i < ops.size
 ·rw [List.getElem?_range h,Array.getElem?_toList,mF h]
  rfl
 ·simp [h]
theorem La (hcf:DC C cf) (hct:oI C cf) (vX:C.P.follows .mixedOrders = true) (hed:oV 0 ops.toList = true) {fr fr':Frame} {H H':Heap} {ms:List Mark} {a:Act} {w:World} {id:Nat} {Q:Exit→Act→World→Prop}
  (UE:∀ i j,i < j→j < ops.size→((Region.before ops).getD j 0).testBit i = true∨(oJ ops (opAt ops i) (opAt ops j) = true∧bear (ms.getD i .none) (ms.getD j .none) = true))
  (h:jS C cf nt ops ops.toList fr H = some (fr',H',ms)) (hN:Now C T m K0 nt fr H a w) (hQ:∀ a' w',Now C T m K0 nt fr' H' a' w'→Q .normal a' w'):(Code.region id ops true).wp C.P Q a w:=by
 refine wp_region_any vX ?_
 have hall:rest ops (Array.replicate ops.size false) = List.range ops.size:=by
  unfold rest
  exact List.filter_eq_self.2 fun i hi=>by simp [Array.getD_eq_getD_getElem?,List.mem_range.1 hi]
 have hms:(List.range ops.size).map (fun i=>ms.getD i .none) = ms:=by
  have hlen:=(uI h).1
  apply List.ext_getElem?
  intro i
  rw [List.getElem?_map]
  by_cases hi:i < ops.size
  ·rw [List.getElem?_range hi]
   have:i < ms.length:=by rw [hlen];simpa using hi
   simp [List.getD_eq_getElem?_getD,this]
  ·have:ms.length≤i:=by rw [hlen];simpa using hi
   simp [hi,List.getElem?_eq_none this]
 refine any_ok hcf hct hed (mk:=fun i=>ms.getD i .none) UE hQ ops.size _ fr fr' H a _ (by simp) ?_ (by rw [hall];simp) (by rw [hall,map_range,hms];exact h) (fun _=>rfl) ?_
 ·intro i hi hl
  simp [Array.getD_eq_getD_getElem?,hi] at hl
 ·obtain ⟨μ,hI,hE0,hf,hn,hdf⟩:=hN
  obtain ⟨h1,h2⟩:=Inv.world (w':={ w with drawn:=w.drawn + 1 }) hI (Nat.le_refl _) rfl rfl rfl (fun b _=>.inl rfl)
  exact ⟨μ,h1,hE0.trans h2 hE0.len,tJ.evo h2 (Nat.le_refl _) hf,hn,hdf⟩
theorem UG (hcf:DC C cf) (hct:oI C cf) (vX:C.P.follows .mixedOrders = true) (hd:Jb ops = true) {fr fr':Frame} {H H':Heap} {ms:List Mark} {a:Act} {w:World} {id:Nat} {Q:Exit→Act→World→Prop}
  (h:jS C cf nt ops ops.toList fr H = some (fr',H',ms)) (hok:xC (Region.before ops) ms = true) (hN:Now C T m K0 nt fr H a w) (hQ:∀ a' w',Now C T m K0 nt fr' H' a' w'→Q .normal a' w'):(Code.region id ops true).wp C.P Q a w:=by
 unfold Jb at hd
 simp only [Bool.and_eq_true,List.all_eq_true,List.mem_range,Bool.or_eq_true] at hd
 refine La hcf hct vX hd.1 (fun i j hij hj=>?_) h hN hQ
 have hlen:=(uI h).1
 have hjm:j < ms.length:=by rw [hlen];simpa using hj
 have him:i < ms.length:=by omega
 have h1:=hd.2 j hj i hij
 rw [mF hj,mF (show i < ops.size by omega)] at h1
 unfold xC at hok
 simp only [List.all_eq_true,List.mem_range,Bool.or_eq_true] at hok
 have h2:=hok j hjm i hij
 rw [List.getElem?_eq_getElem hjm,List.getElem?_eq_getElem him] at h2
 rcases h1 with h1 | h1
 ·exact .inl h1
 ·rcases h2 with h2 | h2
  ·exact .inl h2
  ·exact .inr ⟨h1,by simpa [List.getD_eq_getElem?_getD,hjm,him] using h2⟩
theorem Xa (hcf:DC C cf) (hct:oI C cf) (vX:C.P.follows .mixedOrders = true) (hd:Ov C ops = true) {fr fr':Frame} {H H':Heap} {a:Act} {w:World} {id:Nat} {Q:Exit→Act→World→Prop}
  (h:kW C cf nt ops ops.toList fr H = some (fr',H')) (hN:Now C T m K0 nt fr H a w) (hQ:∀ a' w',Now C T m K0 nt fr' H' a' w'→Q .normal a' w'):(Code.region id ops true).wp C.P Q a w:=by
 obtain ⟨ms,hms⟩:=Qa h
 unfold Ov at hd
 simp only [Bool.and_eq_true,List.all_eq_true,List.mem_range,Bool.or_eq_true] at hd
 refine La hcf hct vX hd.1 (fun i j hij hj=>?_) hms hN hQ
 obtain ⟨hlen,hmk⟩:=uI hms
 have hjm:j < ms.length:=by rw [hlen];simpa using hj
 have him:i < ms.length:=by omega
 have h1:=hd.2 j hj i hij
 have ei:=mF (show i < ops.size by omega)
 have ej:=mF hj
 rw [ei,ej] at h1
 rcases h1 with h1 | h1
 ·exact .inl h1
 ·obtain ⟨fi,Hi,Hi',e1⟩:=hmk i _ _ (by rw [Array.getElem?_toList];exact ei) (List.getElem?_eq_getElem him)
  obtain ⟨fj,Hj,Hj',e2⟩:=hmk j _ _ (by rw [Array.getElem?_toList];exact ej) (List.getElem?_eq_getElem hjm)
  have:=KW h1 fi fj Hi Hi' Hj Hj'
  rw [← e1,← e2] at this
  exact .inr ⟨this.1,by simpa [List.getD_eq_getElem?_getD,hjm,him] using this.2⟩
end
end Go.AM
namespace Go.AM
def Lc:Ex→Exit
 | .normal=>.normal
 | .exit id=>.exit id
 | .ret=>.ret
def Left (C:Ctx) (T:Nat→Nat→Prop) (m:Nat) (K0:Kx) (nt:Nat) (out:Out) (e:Exit) (a:Act) (w:World):Prop :=
 e = Lc out.ex∧Now C T m K0 nt out.fr out.H a w
theorem least {J:Nat→Prop} (h:∃ k,J k):∃ k,J k∧∀ j,J j→k≤j:=by
 obtain ⟨k,hk⟩:=h
 induction k using Nat.strongRecOn with
 | _ k ih =>
  by_cases hx:∃ j,j < k∧J j
  ·obtain ⟨j,h1,h2⟩:=hx
   exact ih j h1 h2
  ·exact ⟨k,hk,fun j hj=>Nat.le_of_not_lt fun h=>hx ⟨j,h,hj⟩⟩
open Classical in
noncomputable def Jc (J:Act→World→Nat→Prop) (a:Act) (w:World):Nat :=
 if h:∃ k,J a w k then Classical.choose (least h) else 0
theorem Dh {J:Act→World→Nat→Prop} {a:Act} {w:World} (h:∃ k,J a w k):J a w (Jc J a w)∧∀ j,J a w j→Jc J a w≤j:=by
 unfold Jc
 rw [dif_pos h]
 exact Classical.choose_spec (least h)
theorem Jd {P:Program} {Q:Exit→Act→World→Prop} {c:Code} {a:Act} {w:World} (J:Act→World→Nat→Prop) (n:Nat) (h0:J a w n)
  (round:∀ a w n,J a w n→c.wp P (Exit.then (fun a' w'=>∃ k,k < n∧J a' w' k) Q) a w):(Code.loop c).wp P Q a w:=by
 refine wp_loop (fun a w=>∃ k,J a w k) (Jc J) ⟨n,h0⟩ fun a w h=>?_
 obtain ⟨h1,h2⟩:=Dh h
 refine wp_mono (round a w _ h1) fun e a' w' hq=>?_
 cases e <;> simp only [Exit.then] at hq ⊢ <;> try exact hq
 obtain ⟨k,h3,h4⟩:=hq
 exact ⟨⟨k,h4⟩,Nat.lt_of_le_of_lt ((Dh ⟨k,h4⟩).2 k h4) h3⟩
section
variable {C:Ctx} {T:Nat→Nat→Prop} {m nt:Nat} {K0:Kx}
theorem oL {cf:Cf} (hcf:DC C cf) (hct:oI C cf) {f n:Nat} (vX:C.P.follows .mixedOrders = true):(c:Code)→jB C f c = true→∀ {fr:Frame} {H:Heap} {a:Act} {w:World} {out:Out},
  exec C cf f m n c fr H = some out→Now C T m K0 (gu C f) fr H a w→c.wp C.P (Left C T m K0 (gu C f) out) a w
 | .skip,_,fr,H,a,w,out,h,hN=>by
  simp only [exec,Option.some.injEq] at h
  subst h
  exact wp_skip ⟨rfl,hN⟩
 | .region id ops draw,hdr,fr,H,a,w,out,h,hN=>by
  simp only [exec] at h
  have hQ:∀ fr' H',out = iY C f m id fr' H'→∀ a' w',Now C T m K0 (gu C f) fr' H' a' w'→Left C T m K0 (gu C f) out .normal a' w':=fun fr' H' e a' w' hN'=>by
   subst e
   obtain ⟨h1,h2⟩:=hN'.after f id
   exact ⟨by rw [h1];rfl,h2⟩
  split at h
  ·rename_i hdy
   simp only [Bool.and_eq_true] at hdy
   obtain ⟨rfl,hdy⟩:=hdy
   simp only [jB,Bool.not_true,hdy,if_true,Bool.false_or] at hdr
   split at h
   ·rename_i fr' H' ms hr
    split at h
    ·rename_i hok
     simp only [Option.some.injEq] at h
     exact UG hcf hct vX hdr hr hok hN (hQ fr' H' h.symm)
    ·cases h
   ·cases h
  ·rename_i agb
   split at h
   ·cases h
   ·rename_i hd
    split at h
    ·rename_i fr' H' hr
     simp only [Option.some.injEq] at h
     cases draw with
     | true =>
      have hid:C.dr f id = true:=by simpa using hd
      have hdy:C.dy f id = false:=by simpa using agb
      simp only [jB,hid,hdy,Bool.not_true,Bool.false_or,Bool.false_eq_true,if_false] at hdr
      exact Xa hcf hct vX hdr hr hN (hQ fr' H' h.symm)
     | false =>
      refine wp_region ?_
      have:=Bv hcf (Q:=Left C T m K0 (gu C f) out) ops.toList 0 rfl hr hN (hQ fr' H' h.symm)
      rwa [Array.length_toList,← List.range_eq_range'] at this
    ·cases h
 | .seq x y,hdr,fr,H,a,w,out,h,hN=>by
  simp only [jB,Bool.and_eq_true] at hdr
  obtain ⟨hd1,hd2⟩:=hdr
  simp only [exec] at h
  split at h
  ·rename_i fr' H' hx
   refine wp_seq (wp_mono (oL hcf hct vX x hd1 hx hN) fun e a' w' hl=>?_)
   obtain ⟨rfl,hN'⟩:=hl
   exact oL hcf hct vX y hd2 h hN'
  ·rename_i hne
   refine wp_seq (wp_mono (oL hcf hct vX x hd1 h hN) fun e a' w' hl=>?_)
   obtain ⟨rfl,hN'⟩:=hl
   cases hx:out.ex with
   | normal =>
    obtain ⟨ex,fr',H'⟩:=out
    simp only at hx
    subst hx
    exact absurd h (hne _ _)
   | exit id=>simp only [Lc,Exit.then];exact ⟨by rw [hx];rfl,hN'⟩
   | ret=>simp only [Lc,Exit.then];exact ⟨by rw [hx];rfl,hN'⟩
 | .cond c x y,hdr,fr,H,a,w,out,h,hN=>by
  simp only [jB,Bool.and_eq_true] at hdr
  obtain ⟨hd1,hd2⟩:=hdr
  simp only [exec] at h
  split at h
  ·rename_i d hd
   have hc:a.eval c = .bool d:=by
    obtain ⟨μ,hI,_,hf,_⟩:=hN
    have:=xB hI hf c
    rw [hd] at this
    simpa [aC,aH,aQ,RV] using this
   refine wp_cond hc ?_
   cases d with
   | true=>exact oL hcf hct vX x hd1 h hN
   | false=>exact oL hcf hct vX y hd2 h hN
  ·cases h
 | .block id c,hdr,fr,H,a,w,out,h,hN=>by
  simp only [jB] at hdr
  simp only [exec] at h
  split at h
  ·rename_i id' fr' H' hx
   refine wp_block (wp_mono (oL hcf hct vX c hdr hx hN) fun e a' w' hl=>?_)
   obtain ⟨rfl,hN'⟩:=hl
   simp only [Lc,Exit.inBlock]
   split at h
   ·rename_i he
    simp only [Option.some.injEq] at h
    subst h
    rw [if_pos he]
    exact ⟨rfl,hN'⟩
   ·rename_i he
    simp only [Option.some.injEq] at h
    subst h
    rw [if_neg he]
    exact ⟨rfl,hN'⟩
  ·rename_i hne
   refine wp_block (wp_mono (oL hcf hct vX c hdr h hN) fun e a' w' hl=>?_)
   obtain ⟨rfl,hN'⟩:=hl
   cases hx:out.ex with
   | normal=>simp only [Lc,Exit.inBlock];exact ⟨by rw [hx];rfl,hN'⟩
   | exit id =>
    obtain ⟨ex,fr',H'⟩:=out
    simp only at hx
    subst hx
    exact absurd h (hne _ _ _)
   | ret=>simp only [Lc,Exit.inBlock];exact ⟨by rw [hx];rfl,hN'⟩
 | .loop c,hdr,fr,H,a,w,out,h,hN=>by
  simp only [jB] at hdr
  simp only [exec] at h
  refine Jd (fun a w k=>∃ fr H,oW (exec C cf f m n c) k fr H = some out∧Now C T m K0 (gu C f) fr H a w) n ⟨fr,H,h,hN⟩ ?_
  rintro a w k ⟨fr,H,hk,hN⟩
  cases k with
  | zero=>simp [oW] at hk
  | succ k =>
   simp only [oW] at hk
   split at hk
   ·rename_i fr' H' hx
    refine wp_mono (oL hcf hct vX c hdr hx hN) fun e a' w' hl=>?_
    obtain ⟨rfl,hN'⟩:=hl
    exact ⟨k,Nat.lt_succ_self k,fr',H',hk,hN'⟩
   ·rename_i hne
    refine wp_mono (oL hcf hct vX c hdr hk hN) fun e a' w' hl=>?_
    obtain ⟨rfl,hN'⟩:=hl
    cases hx:out.ex with
    | normal =>
     obtain ⟨ex,fr',H'⟩:=out
     simp only at hx
     subst hx
     exact absurd hk (hne _ _)
    | exit id=>simp only [Lc,Exit.then];exact ⟨by rw [hx];rfl,hN'⟩
    | ret=>simp only [Lc,Exit.then];exact ⟨by rw [hx];rfl,hN'⟩
 | .exit id,_,fr,H,a,w,out,h,hN=>by
  simp only [exec,Option.some.injEq] at h
  subst h
  exact wp_exit ⟨rfl,hN⟩
 | .ret,_,fr,H,a,w,out,h,hN=>by
  simp only [exec,Option.some.injEq] at h
  subst h
  exact wp_ret ⟨rfl,hN⟩
 | .scope ..,_,fr,H,a,w,out,h,hN=>by simp [exec] at h
 | .label ..,_,fr,H,a,w,out,h,hN=>by simp [exec] at h
 | .goto ..,_,fr,H,a,w,out,h,hN=>by simp [exec] at h
 | .refuse ..,_,fr,H,a,w,out,h,hN=>by simp [exec] at h
 | .rangeFunc ..,_,fr,H,a,w,out,h,hN=>by simp [exec] at h
end
structure Hg (C:Ctx):Prop where
 mix:C.P.follows .mixedOrders = true
 draws:∀ f fn c,C.P.funcs[f]? = some fn→fn.body = some c→jB C f c = true
section
variable {C:Ctx} {T:Nat→Nat→Prop} {K:Kx}
theorem RZ (hI:Inv C K T) {t:TypeId} {a x:AV} {v:Value} (hv:aC K T a v) (h:vC C K.H t a = some x) :
  ∃ u,(do loadVar t (← asAddr v):Sem Value).run C.P K.w = .ok u K.w∧aC K T x u:=by
 obtain ⟨u,h1,h2⟩:=Ld hI hv h
 refine ⟨u,?_,h2⟩
 have:∃ ad,v = .pointer (some ad):=by
  unfold vC at h
  split at h
  ·cases h
  ·split at h
   ·rename_i o i f g
    cases hl:live K.H o g with
    | none=>rw [hl] at h;cases h
    | some ob =>
     simp only [aC,aH,aQ] at hv
     obtain ⟨h3,h4⟩:=bI.1 hl
     exact ⟨_,((hv.2.2 ob h3).2 h4).2⟩
   ·simp only [aC,aH] at hv
    obtain ⟨b,off,h3,_⟩:=hv
    exact ⟨_,h3⟩
   ·cases h
 obtain ⟨ad,rfl⟩:=this
 simp only [Instr.loadAt,Instr.sureAddr,Sem.run_bind,Sem.run_pure,Result.andThen_ok] at h1
 simp only [asAddr,Sem.run_bind,Sem.run_pure,Result.andThen_ok]
 exact h1
def Je (tmps:Array Value):ResultVar→Sem Value
 | .tmp t=>pure (tmps.getD t undef)
 | .cell a t=>do loadVar t (← asAddr (tmps.getD a undef))
theorem vY (hI:Inv C K T) {fr:Frame} {tmps:Array Value} (hf:tJ K T fr tmps):∀ {rs:List ResultVar} {l:List AV},aP C fr K.H rs = some l →
  ∃ us,(rs.mapM (Je tmps)).run C.P K.w = .ok us K.w∧dY K T l us
 | [],l,h=>by
  simp only [aP,Option.some.injEq] at h
  subst h
  exact ⟨[],by simp [Sem.run_pure],trivial⟩
 | .tmp t :: r,l,h=>by
  simp only [aP] at h
  cases hr:aP C fr K.H r with
  | none=>rw [hr] at h;cases h
  | some l' =>
   rw [hr] at h
   simp only [Option.map_some,Option.some.injEq] at h
   subst h
   obtain ⟨us,h1,h2⟩:=vY hI hf hr
   exact ⟨tmps.getD t undef :: us,by simp only [List.mapM_cons,Je,Sem.run_bind,Sem.run_pure,Result.andThen_ok,h1],hf t,h2⟩
 | .cell a t :: r,l,h=>by
  simp only [aP] at h
  split at h
  ·rename_i x l' hx hr
   simp only [Option.some.injEq] at h
   subst h
   obtain ⟨us,h1,h2⟩:=vY hI hf hr
   obtain ⟨u,h3,h4⟩:=RZ hI (hf a) hx
   refine ⟨u :: us,?_,h4,h2⟩
   simp only [List.mapM_cons,Je]
   rw [Sem.run_bind,h3]
   simp only [Result.andThen_ok,Sem.run_bind,h1,Sem.run_pure]
  ·cases h
theorem Hl:∀ {l:List AV} {us:List Value},eU l = true→dY K T l us→us.length = l.length∧∀ (j:Nat) (a:AV),l[j]? = some a→∃ u,us[j]? = some u∧aH K T a u
 | [],us,_,h=>by rw [h.nil];simp
 | a :: r,us,hn,h=>by
  obtain ⟨v,s,rfl,h1,h2⟩:=h.cons
  have ha:aH K T a v∧eU r = true:=by cases a <;> first | exact ⟨h1,hn⟩ | (simp [eU] at hn;done)
  obtain ⟨h3,h4⟩:=Hl ha.2 h2
  refine ⟨by simp [h3],fun j b hb=>?_⟩
  cases j with
  | zero =>
   simp only [List.getElem?_cons_zero,Option.some.injEq] at hb
   subst hb
   exact ⟨v,rfl,ha.1⟩
  | succ j=>exact h4 j b hb
theorem dY.len:∀ {l:List AV} {us:List Value},dY K T l us→us.length = l.length
 | [],us,h=>by simp [h.nil]
 | a :: r,us,h=>by
  obtain ⟨v,s,rfl,h1,h2⟩:=h.cons
  simp [h2.len]
theorem Ox (hI:Inv C K T) {fr:Frame} {tmps:Array Value} (hf:tJ K T fr tmps) {fn:Func} {l:List AV} (h:aP C fr K.H fn.results.toList = some l) :
  ∃ v,(results fn tmps).run C.P K.w = .ok v K.w∧aC K T (aO l) v:=by
 obtain ⟨us,h1,h2⟩:=vY hI hf h
 have hlen:=h2.len
 refine ⟨if h:us.toArray.size = 1 then us.toArray[0] else .tuple us.toArray,?_,?_⟩
 ·have:results fn tmps = (do let vs ← fn.results.mapM (Je tmps);pure (if h:vs.size = 1 then vs[0] else .tuple vs)):=rfl
  rw [this,Array.mapM_eq_mapM_toList]
  simp only [Sem.run_bind,map_eq_pure_bind,h1,Result.andThen_ok,Sem.run_pure]
 ·split
  ·rename_i hs
   simp only [List.size_toArray] at hs
   rw [hs] at hlen
   cases l with
   | nil=>simp at hlen
   | cons a r =>
    cases r with
    | nil =>
     obtain ⟨v,s,rfl,h3,h4⟩:=h2.cons
     exact h3
    | cons=>simp at hlen
  ·rename_i hs
   simp only [List.size_toArray] at hs
   have:aO l = if eU l then .tup l else .top:=by
    cases l with
    | nil=>rfl
    | cons a r =>
     cases r with
     | nil=>simp at hlen;exact absurd hlen hs
     | cons=>rfl
   rw [this]
   split
   ·rename_i hn
    obtain ⟨h3,h4⟩:=Hl hn h2
    simp only [aC]
    exact ⟨us.toArray,rfl,by simpa using h3,fun j a ha=>by obtain ⟨u,h5,h6⟩:=h4 j a ha;exact ⟨u,by simpa using h5,h6⟩⟩
   ·exact aC.top _ _ _
theorem zO:∀ {l:List AV} {us:List Value} {k:Nat},dY K T l us→∀ i,(k≤i∧i < k + us.length∧∃ u,us[i - k]? = some u∧aC K T (au (numbered k l) i) u)∨au (numbered k l) i = .top
 | [],us,k,_,i=>.inr rfl
 | a :: r,us,k,h,i=>by
  obtain ⟨v,s,rfl,h1,h2⟩:=h.cons
  simp only [numbered,au]
  split
  ·rename_i hk
   subst hk
   left
   refine ⟨Nat.le_refl _,by simp,v,by simp,h1⟩
  ·rcases zO (k:=k + 1) h2 i with ⟨h3,h4,u,h5,h6⟩ | h3
   ·left
    simp only [List.length_cons]
    refine ⟨by omega,by omega,u,?_,h6⟩
    rw [show i - k = (i - (k + 1)) + 1 by omega]
    simpa using h5
   ·exact .inr h3
theorem Oy (hC:Hg C) {cf:Cf} (hcf:DC C cf) (hct:oI C cf) (n:Nat):DC C (kS C cf n):=by
 intro f args H x H' h K T vs hK hI ha
 subst hK
 unfold kS at h
 split at h
 ·cases h
 ·rename_i fn hF
  split at h
  ·cases h
  ·rename_i c hc
   refine calls_of_wp hF hc ?_
   have hN:Now C T K.H.length K (gu C f) (numbered 0 args) K.H { tmps:=vs ++ Array.replicate (fn.ntmps - vs.size) undef,defers:=[] } K.w:=by
    refine ⟨K.μ,hI,Evo.refl T K (Nat.le_refl _),fun i=>?_,?_,rfl⟩
    ·rcases zO (k:=0) ha i with ⟨_,h2,u,h3,h4⟩ | h1
     ·rw [Nat.sub_zero] at h3
      have:(vs ++ Array.replicate (fn.ntmps - vs.size) undef).getD i undef = u:=by
       have hlt:i < vs.size:=by simpa using h2
       rw [Array.getD_eq_getD_getElem?,Array.getElem?_append_left hlt,← Array.getElem?_toList,h3]
       rfl
      rw [this]
      exact h4
     ·rw [h1];exact aC.top _ _ _
    ·simp only [gu,hF,Option.map_some,Option.getD_some,Array.size_append,Array.size_replicate]
     omega
   have key:∀ (out:Out),exec C cf f K.H.length n c (numbered 0 args) K.H = some out→(out.ex = .normal∨out.ex = .ret)→(aP C out.fr out.H fn.results.toList).map (fun l=>(aO l,out.H)) = some (x,H') →
     c.wp C.P (bodyPost C.P fn (Gives C T K x H')) { tmps:=vs ++ Array.replicate (fn.ntmps - vs.size) undef,defers:=[] } K.w:=by
    intro out hout hex hres
    refine wp_mono (oL hcf hct hC.mix c (hC.draws f fn c hF hc) hout hN) fun e a' w' hl=>?_
    obtain ⟨rfl,μ,hI',hE,hf,_,hd⟩:=hl
    cases hr:aP C out.fr out.H fn.results.toList with
    | none=>rw [hr] at hres;cases hres
    | some l =>
     rw [hr] at hres
     simp only [Option.map_some,Option.some.injEq,Prod.mk.injEq] at hres
     obtain ⟨rfl,rfl⟩:=hres
     obtain ⟨v,h1,h2⟩:=Ox hI' hf hr
     rcases hex with hex | hex <;> rw [hex] <;> exact ⟨hd,v,h1,μ,hI',hE,h2⟩
   split at h
   ·rename_i fr' H1 hx
    exact key _ hx (.inl rfl) h
   ·rename_i fr' H1 hx
    exact key _ hx (.inr rfl) h
   ·cases h
theorem Le (hC:Hg C):∀ n,DC C (kL C n)
 | 0=>by intro f args H x H' h;simp [kL] at h
 | n + 1=>by
  have:=RH (Oy hC (Le hC n) (KN n) n)
  exact this
end
end Go.AM
namespace Go.AM
open Go.ChangeShapes Go.WideShapes Go.ChangeAt Go.RowKit
def T0 (n:Nat) (t b:Nat):Prop:=n≤b∨t ≠ 0
def start (W:World):Kx:=⟨fun _=>default,[],W⟩
theorem xE (W:World) (b:Nat):¬ Own (start W) b:=by
 rintro ⟨o,ob,h,_⟩
 simp [start] at h
def GOk (C:Ctx) (W:World):Prop:=∀ g p,C.G g = some p→ah p ≠ 0∧g < W.heap.size∧RP W (fun b=>b < W.heap.size) p (fun j=>W.cell? ⟨g,j,none⟩)
theorem GOk.none {C:Ctx} (hG:∀ g,C.G g = none) (W:World):GOk C W:=fun g p h=>by rw [hG] at h;cases h
theorem Si {C:Ctx} {W:World} (hG:GOk C W):Inv C (start W) (T0 W.heap.size) where
 obj:=fun o ob h=>by simp [start] at h
 inj:=fun o o' ob ob' h=>by simp [start] at h
 own:=fun b h=>absurd h (xE W b)
 new:=fun b h=>.inl h
 mono:=fun t b h=>by
  rcases h with h | h
  ·exact .inl h
  ·exact absurd rfl h
 glob:=fun g p h=>by
  obtain ⟨h1,h2,h3⟩:=hG g p h
  have hn:∀ b,b < W.heap.size→NT (start W) (T0 W.heap.size) dG b:=fun b hb=>⟨.inr (by simp [dG]),xE W b,hb⟩
  exact ⟨h1,hn g h2,jy (w':=(start W).w) (fun b hb=>⟨hn b hb,fun _ _ h=>h⟩) p _ _ (fun _ _ h=>h) h3⟩
def Xc (W:World) (e:Ending) (W':World):Prop :=
 e = .returned (.bool true)∧W'.os = W.os∧W'.output = W.output∧∀ b:Nat,b < W.heap.size→W'.heap[b]? = W.heap[b]?
theorem Sj {C:Ctx} (hC:Hg C) {n f:Nat} {args:List AV} {vs:Array Value} {W:World} {H':Heap} (hG:GOk C W) (h:kL C n f args [] = some (.bool true,H'))
  (ha:dY (start W) (T0 W.heap.size) args vs.toList):Calls C.P f vs W (Xc W):=by
 have:=Le hC n f args [] _ H' h (start W) (T0 W.heap.size) vs rfl (Si hG) ha
 refine Calls.mono this fun e W' he=>?_
 cases e with
 | panicked=>exact he.elim
 | outgrown=>exact he.elim
 | returned v =>
  obtain ⟨μ,hI,hE,hv⟩:=he
  simp only [aC,aH,aQ,RV] at hv
  subst hv
  refine ⟨rfl,hE.os,hE.output,fun b hb=>hE.exact b hb (xE W b) ?_⟩
  rintro (h | h)
  ·have:b < W.heap.size:=hb
   omega
  ·exact h rfl
section
variable {H:Type} {enc:TypeId × Value→H}
theorem UH {P:Program} {f:Func} {s:ChangeSpec} {apart fresh handsOn again:Bool} {W W':World} {args:Array Value} {ds gs:List (DataW H)} {before:List MemPlace} {rt:TypeId}
  (hrow:laidOutB P = true) (hmap:mapsRowed P = true) (hfull:∀ t e,t < P.types.size→P.underlying t = some (.slice e)→0 < P.cellsOf e) (Jf:∀ t ∈ f.params.toList,t < P.types.size)
  (hvars:s.vars = []) (hrt:f.resultTypes = #[rt]) (hb:P.underlying rt = some .bool)
  (hW:DataW.Whole enc P f.params.toList s.vars apart W args.toList ds gs before) (hfn:s.fn H ds = { results:=[.lit (.bool true)],args:=ds })
  (hos:W'.os = W.os) (hout:W'.output = W.output) (hsame:∀ b:Nat,b < W.heap.size→W'.heap[b]? = W.heap[b]?) :
  s.post enc P f apart fresh handsOn again W args (.bool true) W':=by
 have hlt:=hW.lt
 have hcell:∀ b off,b < W.heap.size→W'.cell? ⟨b,off,none⟩ = W.cell? ⟨b,off,none⟩:=fun b off h=>cell_of_heap (hsame b h) off
 have hfz:∀ a:Addr,a.block < W.heap.size→W'.frozen? a = W.frozen? a:=fun a h=>by unfold World.frozen?;rw [hsame _ h]
 have hat:∀ p ∈ before,W.sameAt W' p:=by
  intro p hp
  have:=hlt p hp
  cases p with
  | cell b off=>exact hcell b off this
  | map b=>exact hsame b this
 have K:=kids_rows hrow hmap
 obtain ⟨p,q,hA,hV,hps,hz,hn⟩:=id hW
 rw [hvars] at hV
 obtain ⟨rfl,rfl⟩:=trodVars_none hV
 simp only [List.append_nil] at hps
 subst hps
 -- the arguments again
 have again':∀ sp:Nat→Bool,(∀ x ∈ before,sp x.block = true)→DataW.TrodAll enc P W' 0 sp true f.params.toList args.toList ds before:=by
  intro sp hsp
  have carry:∀ {ts:List TypeId} {vs:List Value} {ds:List (DataW H)} {ps:List MemPlace},DataW.TrodAll enc P W 0 (fun _=>true) true ts vs ds ps→(∀ x ∈ ps,W.sameAt W' x)→DataW.TrodAll enc P W' 0 (fun _=>true) true ts vs ds ps:=by
   intro ts
   induction ts with
   | nil=>intro vs ds ps h _;cases vs <;> cases ds <;> first | exact h | exact h.elim
   | cons t ts ih =>
    intro vs ds ps h hs
    cases vs with
    | nil=>exact h.elim
    | cons v vs =>
     cases ds with
     | nil=>exact h.elim
     | cons d ds =>
      obtain ⟨a,b,⟨n,h1⟩,h2,e⟩:=h
      subst e
      exact ⟨a,b,⟨n,DataW.trod_carry n t _ _ h1 fun x hx=>hs x (List.mem_append_left _ hx)⟩,ih h2 fun x hx=>hs x (List.mem_append_right _ hx),rfl⟩
  exact DataW.TrodAll.respare K hfull Jf (carry hA hat) hsp
 have hres:∀ (b:Nat) (sp:Nat→Bool) (hd:Bool),DataW.TrodAll enc P W' b sp hd f.resultTypes.toList ((Value.bool true).resultList f.resultTypes.size) [.lit (.bool true)] []:=by
  intro b sp hd
  rw [hrt]
  exact trodAll_mk1 (shut_bool hb true)
 have hfn':s.fn H (ds ++ []) = { results:=[.lit (.bool true)],args:=ds }:=by rw [List.append_nil];exact hfn
 have hold:∀ x ∈ before,(fun b=>decide (b < W.heap.size)) x.block = true:=fun x hx=>by simpa using hlt x hx
 have hkept:W.keptBut W' (fun x=>x ∈ before∧x ∈ before ++ []):=by
  refine ⟨hos,hout,fun i hi=>?_⟩
  rw [hsame i hi]
  generalize W.heap[i]? = x
  rcases x with _ | x
  ·rfl
  ·cases x <;> simp
 refine ⟨ds,[],before,[],before,[],hW,?_,?_,?_,?_,fun _=>?_⟩
 ·rw [hfn'];exact hres _ _ _
 ·rw [hfn'];exact again' _ hold
 ·rw [hfn',hvars];rfl
 ·refine World.keptBut_mono (fun x hx=>?_) hkept
  exact ⟨hx.1,.inr (.inl hx.1)⟩
 ·refine ⟨ok_one hrt rfl (okWide_bool_mk hb true),[.lit (.bool true)] ++ ds,[],([] ++ before) ++ [],⟨[] ++ before,[],?_,?_,rfl,?_,?_⟩,?_⟩
  ·exact trodAll_append (again' _ (fun _ _=>rfl)) (hres _ _ _)
  ·rw [hvars];rfl
  ·intro b off hp
   have hp':MemPlace.cell b off ∈ before:=by simpa using hp
   rw [hfz ⟨b,off,none⟩ (hlt (MemPlace.cell b off) hp')]
   exact hz b off hp'
  ·intro ha
   simpa using hn ha
  ·intro x hx _
   simpa using hx
theorem law_lifted {a:Assume} {D:Checked} {X:Ctx} (hX:X.P = D.prog) (hC:Hg X) (hG:∀ g,X.G g = none) {os:Os} {f:FuncId} {fn:Func} {s:ChangeSpec} {conds:List PathCond} {apart fresh handsOn again:Bool} {rt:TypeId}
  (own:ownKnob D.prog.godebug = none) (started:os.Started) (noInit:D.prog.inits.idxOf? f = none) (hfn:D.prog.funcs[f]? = some fn)
  (witness:∃ (w:World) (tape:Tape) (i:Input),w.os = os∧(w.forCall tape i).Shaped D.prog∧i.vars = []∧Input.okWide D.prog (w.forCall tape i) .any w.heap.size f i ∧
   s.pre6 enc D.prog fn conds apart (w.forCall tape i).memory i.args∧a.holds D.prog (lone (Frame.enter D.prog f i.args .normal) [] (w.forCall tape i)))
  (hrow:laidOutB D.prog = true) (hmap:mapsRowed D.prog = true) (hfull:∀ t e,t < D.prog.types.size→D.prog.underlying t = some (.slice e)→0 < D.prog.cellsOf e) (Jf:∀ t ∈ fn.params.toList,t < D.prog.types.size)
  (hvars:s.vars = []) (hrt:fn.resultTypes = #[rt]) (hb:D.prog.underlying rt = some .bool)
  (hspec:∀ ds:List (DataW H),ds.length = fn.params.toList.length→s.fn H ds = { results:=[.lit (.bool true)],args:=ds })
  (run:∀ (W:World) (base:Nat) (args:Array Value) (ds:List (DataW H)) (ps:List MemPlace),
   (∀ (j:Nat) t v,fn.params[j]? = some t→args[j]? = some v→Value.okWide D.prog W .any base t v) →
   DataW.TrodAll enc D.prog W 0 (fun _=>true) true fn.params.toList args.toList ds ps →
   ∃ n as H',kL X n f as [] = some (.bool true,H')∧dY (start W) (T0 W.heap.size) as args.toList) :
  ReturnsInHanded a D os f .any (s.pre6 enc D.prog fn conds apart) (s.post enc D.prog fn apart fresh handsOn again):=by
 refine returnsInHanded_of_change own started noInit hfn witness ?_
 intro W base args ds gs before hval hW _ _
 obtain ⟨p,q,hA,hV,_,_,_⟩:=id hW
 obtain ⟨n,as,H',h1,h2⟩:=run W base args ds p hval hA
 have Bg:=Sj hC (GOk.none hG W) h1 h2
 rw [hX] at Bg
 refine Calls.mono Bg fun e W' he=>?_
 obtain ⟨he,hos,hout,hsame⟩:=he
 exact ⟨_,he,UH hrow hmap hfull Jf hvars hrt hb hW (hspec ds (trodAll_length hA).2) hos hout hsame⟩
end
def UJ (C:Ctx):Bool :=
 (List.range C.P.funcs.size).all fun f=>match C.P.funcs[f]? with
  | some fn=>match fn.body with
   | some c=>jB C f c
   | none=>true
  | none=>true
theorem UK {C:Ctx} (mix:C.P.follows .mixedOrders = true) (h:UJ C = true):Hg C where
 mix:=mix
 draws:=by
  intro f fn c hf hc
  have hlt:f < C.P.funcs.size:=(Array.getElem?_eq_some_iff.1 hf).1
  have:=List.all_eq_true.1 h f (List.mem_range.2 hlt)
  rw [hf] at this
  simp only [hc] at this
  exact this
def litVal:Lit→Value
 | .bool b=>.bool b
 | .int k n=>.int k n
 | .string b=>.string ⟨⟨b⟩⟩
 | _=>undef
mutual
def cellsD:DataW Unit→List Value
 | .lit l=>[litVal l]
 | .agg ps=>Qb ps
 | _=>[undef]
def Qb:List (DataW Unit)→List Value
 | []=>[]
 | d :: r=>cellsD d ++ Qb r
end
end Go.AM
namespace Go.AM
open Go.Lib
end Go.AM
