/- The abstract machine, part 4: a deterministic evaluator for the program's code and the proof that what it tells is so. Conditions: none beyond the theorems' own. -/
import Derived.Test.YtbodincpjijdiaaAm3
set_option linter.unusedSimpArgs false
set_option linter.unusedVariables false
set_option maxRecDepth 100000
set_option maxHeartbeats 8000000
namespace Go.AM
def Ib (t:Nat) (H:Heap) (π0:List (Nat × Nat)):List (Nat × Nat)→List Obj→Prop
 | [],[]=>True
 | x :: r,ob0 :: S=>(∃ ob,H[x.1]? = some (some ob)∧Like t π0 x.2 ob0 ob)∧Ib t H π0 r S
 | _,_=>False
theorem Ib.at' {t:Nat} {H:Heap} {π0:List (Nat × Nat)}:∀ {π:List (Nat × Nat)} {S:List Obj},Ib t H π0 π S→∀ (k:Nat) (ob0:Obj),S[k]? = some ob0→∃ o g ob,π[k]? = some (o,g)∧H[o]? = some (some ob)∧Like t π0 g ob0 ob
 | [],[],_,k,ob0,hk=>by simp at hk
 | x :: r,ob1 :: S,h,0,ob0,hk=>by
  obtain ⟨⟨ob,h1,h2⟩,_⟩:=h
  simp at hk
  subst hk
  exact ⟨x.1,x.2,ob,rfl,h1,h2⟩
 | x :: r,ob1 :: S,h,k + 1,ob0,hk=>by
  simpa using Ib.at' h.2 k ob0 (by simpa using hk)
 | [],_ :: _,h,_,_,_=>h.elim
 | _ :: _,[],h,_,_,_=>h.elim
theorem Ib.len {t:Nat} {H:Heap} {π0:List (Nat × Nat)}:∀ {π:List (Nat × Nat)} {S:List Obj},Ib t H π0 π S→π.length = S.length
 | [],[],_=>rfl
 | x :: r,ob1 :: S,h=>by rw [List.length_cons,List.length_cons,Ib.len h.2]
 | [],_ :: _,h=>h.elim
 | _ :: _,[],h=>h.elim
theorem Img.ofL {t:Nat} {H:Heap} {π:List (Nat × Nat)} {S:List Obj} (h:Ib t H π π S) (hn:(π.map Prod.fst).Nodup):Img t H π S where
 len:=h.len
 nd:=by
  intro j k oj gj ok gk h1 h2 e
  subst e
  have e1:=Img.qJ h1
  have e2:=Img.qJ h2
  obtain ⟨l1,e1⟩:=List.getElem?_eq_some_iff.1 e1
  obtain ⟨l2,e2⟩:=List.getElem?_eq_some_iff.1 e2
  exact (List.getElem_inj hn).1 (e1.trans e2.symm)
 ob:=h.at'
theorem Like.box {t:Nat} {π:List (Nat × Nat)} {g:Nat} {p0:AV} {cap:Option Nat} {z:Nat} {idb:Bool} {tg0:Nat} {ob:Obj} (h:Like t π g ⟨p0,0,cap,z,false,idb,tg0⟩ ob):g = 0∧∃ p τ,ob = ⟨p,0,cap,z,false,idb,τ⟩∧(τ = 0∨τ = t)∧ren idN tz p = ren (jI π) tz p0∧∀ k ∈ tags p,k = 0∨k = t:=by
 obtain ⟨h1,h2,h3,h4,h5,h6,h7⟩:=h
 obtain ⟨e1,e2,e3⟩:=h5 rfl
 subst e3
 obtain ⟨p,g,cap',z',row,an2,tg⟩:=ob
 simp only at h2 h3 h4 h6 e1 e2 h1 h7
 subst h2 h3 h4 e1 e2
 exact ⟨rfl,p,tg,rfl,h6,h1,h7⟩
theorem Like.S9 {t:Nat} {π:List (Nat × Nat)} {p p0:AV} {cap:Option Nat} {z:Nat} {idb:Bool} {tg0 τ:Nat} (h:ren idN tz p = ren (jI π) tz p0) (hτ:τ = 0∨τ = t) (ht:∀ k ∈ tags p,k = 0∨k = t):Like t π 0 ⟨p0,0,cap,z,false,idb,tg0⟩ ⟨p,0,cap,z,false,idb,τ⟩ :=
 ⟨h,rfl,rfl,rfl,fun _=>⟨rfl,rfl,rfl⟩,hτ,ht⟩
theorem Like.row' {t:Nat} {π:List (Nat × Nat)} {g:Nat} {p0:AV} {cap:Option Nat} {z g0:Nat} {tg0:Nat} {ob:Obj} (h:Like t π g ⟨p0,g0,cap,z,true,false,tg0⟩ ob) (hp:jw p0 = true):RwT p0 g ob.tg ob∧(ob.tg = 0∨ob.tg = t):=by
 refine ⟨⟨?_,h.gen,h.row,h.ids,rfl⟩,h.tg⟩
 have:=h.p
 cases p0 <;> simp only [jw,Bool.false_eq_true] at hp
 case pb l=>exact GH this
 case pi k l=>exact Xm this
 case pn =>
  cases hq:ob.p <;> rw [hq] at this <;> simp only [ren,idN,reduceCtorEq] at this
end Go.AM
namespace Go.AM
def kids (ob:Obj):List Nat:=if ob.ids then ids ob.p else []
def wtF (acc:List Nat):Nat→List Obj→Nat
 | _,[]=>0
 | i,ob :: r=>(if i ∈ acc then 0 else (kids ob).length) + wtF acc (i + 1) r
theorem Ko {acc:List Nat} {o:Nat}:∀ (S:List Obj) (i:Nat),o < i→wtF (acc ++ [o]) i S = wtF acc i S
 | [],_,_=>rfl
 | ob :: r,i,h=>by
  unfold wtF
  rw [Ko r (i + 1) (by omega)]
  have:(i ∈ acc ++ [o]) ↔ i ∈ acc:=by simp;omega
  simp only [this]
theorem Oo {acc:List Nat} {o:Nat} (ho:o ∉ acc):∀ (S:List Obj) (i:Nat) (ob:Obj),i≤o→S[o - i]? = some ob→wtF (acc ++ [o]) i S + (kids ob).length = wtF acc i S
 | [],_,_,_,h=>by simp at h
 | x :: r,i,ob,hi,h=>by
  by_cases he:i = o
  ·subst he
   simp at h
   subst h
   unfold wtF
   rw [Ko r (i + 1) (by omega),if_pos (by simp),if_neg ho]
   omega
  ·have h2:r[o - (i + 1)]? = some ob:=by
    rw [show o - i = (o - (i + 1)) + 1 by omega] at h
    simpa using h
   have:=Oo ho r (i + 1) ob (by omega) h2
   unfold wtF
   have h3:(i ∈ acc ++ [o]) ↔ i ∈ acc:=by simp;omega
   simp only [h3]
   omega
theorem pU {S:List Obj}:∀ (n:Nat) (l acc:List Nat),l.length + wtF acc 0 S≤n →
  (∀ x ∈ acc,x ∈ reach (S.map some) n l acc)∧(∀ x ∈ l,x < S.length→x ∈ reach (S.map some) n l acc)∧(∀ x ob,x ∈ reach (S.map some) n l acc→x ∉ acc→S[x]? = some ob→∀ y ∈ kids ob,y < S.length→y ∈ reach (S.map some) n l acc)
 | 0,[],acc,_=>⟨fun x h=>h,fun x h=>(by cases h),fun x ob h h2=>absurd h h2⟩
 | 0,o :: r,acc,h=>by simp at h
 | n + 1,[],acc,_=>⟨fun x h=>h,fun x h=>(by cases h),fun x ob h h2=>absurd h h2⟩
 | n + 1,o :: r,acc,h=>by
  simp only [List.length_cons] at h
  simp only [reach]
  by_cases hm:acc.contains o = true
  ·rw [if_pos hm]
   obtain ⟨h1,h2,h3⟩:=pU (S:=S) n r acc (by omega)
   refine ⟨h1,fun x hx hl=>?_,h3⟩
   rcases List.mem_cons.1 hx with rfl | hx
   ·exact h1 x (by simpa using hm)
   ·exact h2 x hx hl
  ·rw [if_neg hm]
   have hma:o ∉ acc:=by simpa using hm
   by_cases hl:o < S.length
   ·have hS:(S.map some)[o]? = some (some S[o]):=by rw [List.getElem?_map,List.getElem?_eq_getElem hl];rfl
    rw [hS]
    simp only
    have hw:=Oo hma S 0 S[o] (by omega) (by simp)
    obtain ⟨h1,h2,h3⟩:=pU (S:=S) n (kids S[o] ++ r) (acc ++ [o]) (by simp only [List.length_append];omega)
    unfold kids at h1 h2 h3
    refine ⟨fun x hx=>h1 x (by simp [hx]),fun x hx hxl=>?_,fun x ob hx hxa hob y hy hyl=>?_⟩
    ·rcases List.mem_cons.1 hx with rfl | hx
     ·exact h1 x (by simp)
     ·exact h2 x (by simp [hx]) hxl
    ·by_cases hxo:x = o
     ·subst hxo
      rw [List.getElem?_eq_getElem hl] at hob
      obtain rfl:=Option.some.inj hob
      exact h2 y (List.mem_append_left _ hy) hyl
     ·exact h3 x ob hx (by simp [hxa,hxo]) hob y hy hyl
   ·have hS:(S.map some)[o]? = none:=List.getElem?_eq_none (by simpa using hl)
    rw [hS]
    simp only
    obtain ⟨h1,h2,h3⟩:=pU (S:=S) n r acc (by omega)
    refine ⟨h1,fun x hx hxl=>?_,h3⟩
    rcases List.mem_cons.1 hx with rfl | hx
    ·exact absurd hxl hl
    ·exact h2 x hx hxl
theorem Cb {S:List Obj} {l:List Nat} (h:l.length + wtF [] 0 S≤aG) {x:Nat} (hx:x ∈ l) (hl:x < S.length):x ∈ reach (S.map some) aG l []:=(pU (S:=S) _ _ _ h).2.1 x hx hl
theorem OI {S:List Obj} {l:List Nat} (h:l.length + wtF [] 0 S≤aG) {x y:Nat} {ob:Obj} (hx:x ∈ reach (S.map some) aG l []) (hob:S[x]? = some ob) (hy:y ∈ kids ob) (hl:y < S.length):y ∈ reach (S.map some) aG l []:=(pU (S:=S) _ _ _ h).2.2 x ob hx (by simp) hob y hy hl
end Go.AM
namespace Go.AM
section
variable {ρ:Nat→Nat→Option (Nat × Nat)} {τ:Nat→Nat} {σ:Nat→Nat}
mutual
theorem Oq (h:∀ o g,∃ g',ρ o g = some (σ o,g')):(v:AV)→AM.ids (ren ρ τ v) = (AM.ids v).map σ
 | .ptr o i f g=>by obtain ⟨g',e⟩:=h o g;simp [ren,e,AM.ids]
 | .sl o i f g=>by obtain ⟨g',e⟩:=h o g;simp [ren,e,AM.ids]
 | .map o g=>by obtain ⟨g',e⟩:=h o g;simp [ren,e,AM.ids]
 | .ro c p t=>rfl
 | .iR p i f t=>rfl
 | .agg p=>by simp only [ren,AM.ids,Oq h p]
 | .tup l=>by simp only [ren,AM.ids,rQ h l]
 | .fn f l=>by simp only [ren,AM.ids,rQ h l]
 | .pc l=>by simp only [ren,AM.ids,rQ h l]
 | .pr e l=>by simp only [ren,AM.ids,rQ h l]
 | .pm l=>by simp only [ren,AM.ids,rQ h l]
 | .top=>rfl
 | .bool _=>rfl
 | .int _ _=>rfl
 | .str _=>rfl
 | .gy=>rfl
 | .jA=>rfl
 | .gY=>rfl
 | .pn=>rfl
 | .pb _=>rfl
 | .pi _ _=>rfl
theorem rQ (h:∀ o g,∃ g',ρ o g = some (σ o,g')):(l:List AV)→aJ (bZ ρ τ l) = (aJ l).map σ
 | []=>rfl
 | a :: r=>by simp only [bZ,aJ,Oq h a,rQ h r,List.map_append]
end
end
theorem Like.aj3 {t:Nat} {π:List (Nat × Nat)} {g:Nat} {p0:AV} {cap:Option Nat} {z g0:Nat} {tg0:Nat} {ob:Obj} (h:Like t π g ⟨p0,g0,cap,z,true,false,tg0⟩ ob) (hi:AM.ids p0 = []) (ht:tags p0 = []):RwT p0 g ob.tg ob∧(ob.tg = 0∨ob.tg = t):=by
 refine ⟨⟨?_,h.gen,h.row,h.ids,rfl⟩,h.tg⟩
 have h1:ren idN tz ob.p = p0:=by
  rw [h.p]
  show ren (jI π) tz p0 = p0
  exact jh p0 hi (by simp [ht])
 have h2:AM.ids ob.p = []:=by
  have:=NK.oW (τ:=tz) ob.p
  rw [← this]
  show AM.ids (ren idN tz ob.p) = []
  rw [h1];exact hi
 have h3:tags ob.p = []:=by
  have:=jW (ρ:=idN) (τ:=tz) ob.p
  rw [h1,ht] at this
  exact List.map_eq_nil_iff.1 this.symm
 rw [jh ob.p h2 (by simp [h3])] at h1
 exact h1
theorem Like.Td {t:Nat} {π:List (Nat × Nat)} {g τ:Nat} {p0:AV} {cap:Option Nat} {z g0:Nat} {tg0:Nat} {ob:Obj} (h:RwT p0 g τ ob) (hi:AM.ids p0 = []) (ht:tags p0 = []) (hτ:τ = 0∨τ = t):Like t π g ⟨p0,g0,cap,z,true,false,tg0⟩ ob:=by
 refine ⟨?_,h.g,h.row,h.ids,(fun h=>by cases h),(by rw [h.tg];exact hτ),?_⟩
 ·rw [h.p]
  show ren idN tz p0 = ren (jI π) tz p0
  rw [jh p0 hi (by simp [ht]),jh p0 hi (by simp [ht])]
 ·rw [h.p,ht];simp
def rwF (p:AV):Obj:=⟨p,0,none,0,true,false,0⟩
def eH (t:Nat) (H:Heap):List (Nat × Nat)→List AV→Prop
 | [],[]=>True
 | x :: r,p :: ps=>(∃ τ ob,(τ = 0∨τ = t)∧H[x.1]? = some (some ob)∧RwT p x.2 τ ob)∧eH t H r ps
 | _,_=>False
theorem eH.len {t:Nat} {H:Heap}:∀ {ex:List (Nat × Nat)} {ps:List AV},eH t H ex ps→ex.length = ps.length
 | [],[],_=>rfl
 | x :: r,p :: ps,h=>by rw [List.length_cons,List.length_cons,eH.len h.2]
 | [],_ :: _,h=>h.elim
 | _ :: _,[],h=>h.elim
theorem eH.at' {t:Nat} {H:Heap}:∀ {ex:List (Nat × Nat)} {ps:List AV},eH t H ex ps→∀ (k:Nat) (p:AV),ps[k]? = some p→∃ o g τ ob,ex[k]? = some (o,g)∧(τ = 0∨τ = t)∧H[o]? = some (some ob)∧RwT p g τ ob
 | [],[],_,k,p,hk=>by simp at hk
 | x :: r,q :: ps,h,0,p,hk=>by
  obtain ⟨⟨τ,ob,h1,h2,h3⟩,_⟩:=h
  simp at hk
  subst hk
  exact ⟨x.1,x.2,τ,ob,rfl,h1,h2,h3⟩
 | x :: r,q :: ps,h,k + 1,p,hk=>by simpa using eH.at' h.2 k p (by simpa using hk)
 | [],_ :: _,h,_,_,_=>h.elim
 | _ :: _,[],h,_,_,_=>h.elim
theorem eH.of {t:Nat} {H:Heap}:∀ {ex:List (Nat × Nat)} {ps:List AV},ex.length = ps.length→(∀ (k:Nat) (p:AV),ps[k]? = some p→∃ o g τ ob,ex[k]? = some (o,g)∧(τ = 0∨τ = t)∧H[o]? = some (some ob)∧RwT p g τ ob)→eH t H ex ps
 | [],[],_,_=>trivial
 | x :: r,q :: ps,hl,h=>by
  refine ⟨?_,eH.of (by simpa using hl) fun k p hk=>by simpa using h (k + 1) p (by simpa using hk)⟩
  obtain ⟨o,g,τ,ob,h1,h2,h3,h4⟩:=h 0 q rfl
  simp at h1
  subst h1
  exact ⟨τ,ob,h2,h3,h4⟩
 | [],_ :: _,hl,_=>by simp at hl
 | _ :: _,[],hl,_=>by simp at hl
theorem eH.keep {t:Nat} {H H':Heap}:∀ {ex:List (Nat × Nat)} {ps:List AV},eH t H ex ps→(∀ x ∈ ex,H'[x.1]? = H[x.1]?)→eH t H' ex ps
 | [],[],_,_=>trivial
 | x :: r,p :: ps,h,hk=>by
  obtain ⟨⟨τ,ob,h1,h2,h3⟩,h4⟩:=h
  exact ⟨⟨τ,ob,h1,by rw [hk x (List.mem_cons_self ..)];exact h2,h3⟩,eH.keep h4 fun y hy=>hk y (List.mem_cons_of_mem _ hy)⟩
 | [],_ :: _,h,_=>h.elim
 | _ :: _,[],h,_=>h.elim
theorem eH.lt {t:Nat} {H:Heap} {ex:List (Nat × Nat)} {ps:List AV} (h:eH t H ex ps):∀ x ∈ ex,x.1 < H.length:=by
 intro x hx
 obtain ⟨k,hk,rfl⟩:=List.mem_iff_getElem.1 hx
 have hl:=h.len
 obtain ⟨o,g,τ,ob,h1,_,h3,_⟩:=h.at' k ps[k] (List.getElem?_eq_getElem (by omega))
 rw [List.getElem?_eq_getElem hk] at h1
 rw [Option.some.inj h1]
 exact (List.getElem?_eq_some_iff.1 h3).1
section
variable {t:Nat} {H:Heap} {π ex:List (Nat × Nat)} {S:List Obj} {ps:List AV}
theorem Img.append (h:Img t H π S) (hok:OkS S) (hr:eH t H ex ps) (hf:∀ p ∈ ps,AM.ids p = []∧tags p = []) (hn:(π.map Prod.fst ++ ex.map Prod.fst).Nodup):Img t H (π ++ ex) (S ++ ps.map rwF) where
 len:=by simp [h.len,hr.len]
 nd:=by
  intro j k oj gj ok gk h1 h2 e
  subst e
  have e1:=Img.qJ h1
  have e2:=Img.qJ h2
  rw [List.map_append] at e1 e2
  obtain ⟨l1,e1⟩:=List.getElem?_eq_some_iff.1 e1
  obtain ⟨l2,e2⟩:=List.getElem?_eq_some_iff.1 e2
  exact (List.getElem_inj hn).1 (e1.trans e2.symm)
 ob:=by
  intro k ob0 hk
  by_cases hkl:k < S.length
  ·rw [List.getElem?_append_left hkl] at hk
   obtain ⟨o,g,ob,h1,h2,h3⟩:=h.ob k ob0 hk
   refine ⟨o,g,ob,by rw [List.getElem?_append_left (by rw [h.len];exact hkl)];exact h1,h2,⟨?_,h3.gen,h3.row,h3.ids,h3.bx,h3.tg,h3.tp⟩⟩
   rw [h3.p]
   refine gZ _ (fun o' g' ho=>?_) fun _ _=>rfl
   have:=hok k ob0 hk o' ho
   unfold jI
   rw [List.getElem?_append_left (by rw [h.len];exact this)]
  ·rw [List.getElem?_append_right (by omega),List.getElem?_map] at hk
   cases hp:ps[k - S.length]? with
   | none=>rw [hp] at hk;cases hk
   | some p =>
    rw [hp] at hk
    obtain rfl:=Option.some.inj hk
    obtain ⟨o,g,τ,ob,h1,h2,h3,h4⟩:=hr.at' _ p hp
    obtain ⟨f1,f2⟩:=hf p (List.mem_of_getElem? hp)
    exact ⟨o,g,ob,by rw [List.getElem?_append_right (by rw [h.len];omega),h.len];exact h1,h3,Like.Td h4 f1 f2 h2⟩
theorem OkS.rows (hok:OkS S) (hf:∀ p ∈ ps,AM.ids p = []∧tags p = []):OkS (S ++ ps.map rwF):=by
 intro k ob0 hk o ho
 by_cases hkl:k < S.length
 ·rw [List.getElem?_append_left hkl] at hk
  have:=hok k ob0 hk o ho
  simp;omega
 ·rw [List.getElem?_append_right (by omega),List.getElem?_map] at hk
  cases hp:ps[k - S.length]? with
  | none=>rw [hp] at hk;cases hk
  | some p =>
   rw [hp] at hk
   obtain rfl:=Option.some.inj hk
   have:=(hf p (List.mem_of_getElem? hp)).1
   simp only [rwF] at ho
   rw [this] at ho
   cases ho
theorem Img.pre (h:Img t H π (S ++ ps.map rwF)) (hok:OkS S):Img t H (π.take S.length) S where
 len:=by have:=h.len;simp at this ⊢;omega
 nd:=by
  intro j k oj gj ok gk h1 h2 e
  rw [List.getElem?_take] at h1 h2
  split at h1
  ·split at h2
   ·exact h.nd j k _ _ _ _ h1 h2 e
   ·cases h2
  ·cases h1
 ob:=by
  intro k ob0 hk
  have hkl:=(List.getElem?_eq_some_iff.1 hk).1
  obtain ⟨o,g,ob,h1,h2,h3⟩:=h.ob k ob0 (by rw [List.getElem?_append_left hkl];exact hk)
  refine ⟨o,g,ob,by rw [List.getElem?_take,if_pos hkl];exact h1,h2,⟨?_,h3.gen,h3.row,h3.ids,h3.bx,h3.tg,h3.tp⟩⟩
  rw [h3.p]
  refine gZ _ (fun o' g' ho=>?_) fun _ _=>rfl
  have:=hok k ob0 hk o' ho
  unfold jI
  rw [List.getElem?_take,if_pos this]
theorem Img.rows (h:Img t H π (S ++ ps.map rwF)) (hf:∀ p ∈ ps,AM.ids p = []∧tags p = []):eH t H (π.drop S.length) ps:=by
 refine eH.of ?_ ?_
 ·have:=h.len
  simp at this ⊢
  omega
 ·intro k p hk
  have hkl:=(List.getElem?_eq_some_iff.1 hk).1
  obtain ⟨o,g,ob,h1,h2,h3⟩:=h.ob (S.length + k) (rwF p) (by rw [List.getElem?_append_right (by omega),List.getElem?_map,show S.length + k - S.length = k by omega,hk];rfl)
  obtain ⟨f1,f2⟩:=hf p (List.mem_of_getElem? hk)
  obtain ⟨q1,q2⟩:=Like.aj3 h3 f1 f2
  exact ⟨o,g,ob.tg,ob,by rw [List.getElem?_drop];exact h1,q2,h2,q1⟩
theorem Ip (acc:List Nat) (ps:List AV):∀ i,wtF acc i (ps.map rwF) = 0:=by
 induction ps with
 | nil=>intro i;rfl
 | cons p r ih =>
  intro i
  simp only [List.map_cons,wtF,ih]
  simp [kids,rwF]
theorem Nu (acc:List Nat):∀ (S R:List Obj) (i:Nat),wtF acc i (S ++ R) = wtF acc i S + wtF acc (i + S.length) R
 | [],R,i=>by simp [wtF]
 | x :: S,R,i=>by
  simp only [List.cons_append,wtF]
  rw [Nu acc S R (i + 1),List.length_cons,show i + 1 + S.length = i + (S.length + 1) by omega]
  omega
end
end Go.AM
namespace Go.AM
section
variable {C:Ctx} {T:Cf} {f:Nat} {H:Heap}
def Vd (C:Ctx) (rs:List ResultVar) (n:Nat) (Q:AV→List AV→Prop) (fr:Frame) (E:Heap):Prop :=
 ∃ l ex ps w0,aQ C fr E rs = some l∧eH n E ex ps∧(∀ p ∈ ps,ids p = []∧tags p = [])∧(ex.map Prod.fst).Nodup∧(ids w0).length≤1000∧(∀ k ∈ ids w0,k < ex.length)∧(∀ k,k < ex.length→k ∈ ids w0)∧(∀ k ∈ tags w0,k = 0∨k = n)∧aO l = ren (jI ex) (fun t=>t) w0∧Q w0 ps
theorem Ev1.rows (hT:Below C T) {fn:Func} {c:Code} {n:Nat} {xs ys:List AV} {Q:AV→List AV→Prop}
  (hF:C.P.funcs[f]? = some fn) (hb:fn.body = some c) (hA:jO C f H [] 0 0 xs ys) (hi:aJ ys = []) (hn:xs.length + 1 = n) (hng:n < bW)
  (run:aj (ru (Vd C fn.results.toList n Q)) C T f 0 c (numbered 0 (coerce C ys (aI C f))) []) :
  ∃ H' w0 ex ps τf,Ev1 C f xs H (ren (jI ex) τf w0,H')∧(∀ k ∈ tags w0,τf k = 0)∧eH 0 H' ex ps∧(∀ x ∈ ex,H.length≤x.1)∧(ex.map Prod.fst).Nodup∧Q w0 ps∧H.length≤H'.length∧(∀ j,j < H.length→H'[j]? = H[j]?):=by
 have hI:∀ t,Img t H [] []:=fun t=>⟨rfl,fun j k oj gj ok gk h1 h2 e=>by simp at h1,fun k ob0 h=>by simp at h⟩
 obtain ⟨π'',S',v0,H',τf,hE,hτf,hI',hok',hid,⟨w0,ps,hS',hv0,hQ,hf⟩,hlen,hfix,hnew,hrest⟩:=Ev1.img (C:=C) (T:=T) (f:=f) (H:=H) (t:=0) (n:=n) (π:=[]) (S:=[]) (xs:=xs) (ys:=ys)
  (Q:=fun S' v0=>∃ w0 ps,S' = ps.map rwF∧v0 = w0∧Q w0 ps∧∀ p ∈ ps,ids p = []∧tags p = []) hT hF hb (hI 0) (fun k ob h=>by simp at h) hA
  (by rw [hi];rfl) hn hng (by
   intro E hEl hEI
   obtain rfl:E = []:=List.eq_nil_of_length_eq_zero hEl
   obtain ⟨out,hout,hrun⟩:=run
   refine ⟨out,⟨hout.1,?_⟩,hrun⟩
   obtain ⟨l,ex,ps,w0,hr,VU,hf,hnd,hw0,hw1,hw2,hw3,hw4,hQ⟩:=hout.2
   have an3:=VU.len
   have hI0:Img n out.H [] []:=⟨rfl,fun j k oj gj ok gk h1 h2 e=>by simp at h1,fun k ob0 h=>by simp at h⟩
   have hI2:=hI0.append (fun k ob h=>by simp at h) VU hf (by simpa using hnd)
   have hS:([]:List Obj) ++ ps.map rwF = ps.map rwF:=rfl
   rw [hS,List.nil_append] at hI2
   have hok2:OkS (ps.map rwF):=by
    have:=OkS.rows (S:=[]) (fun k ob h=>by simp at h) hf
    exact this
   refine ⟨ex,ps.map rwF,w0,l,hr,hw4,hI2,hok2,hw3,fun k hk=>by rw [List.length_map];have:=hw1 k hk;omega,Nat.zero_le _,fun k hk=>by simp at hk,fun k ob ob' h=>by simp at h,fun k h1 h2=>?_,w0,ps,rfl,rfl,hQ,hf⟩
   rw [List.length_map] at h2
   refine Cb ?_ (List.mem_append_right _ (hw2 k (by omega))) (by rw [List.length_map];exact h2)
   rw [Ip]
   simp only [List.length_nil,List.range_zero,List.nil_append]
   show _≤100000
   omega)
 subst hS' hv0
 have hR:=Img.rows (S:=[]) (ps:=ps) (by simpa using hI') hf
 rw [List.length_nil,List.drop_zero] at hR
 refine ⟨H',v0,π'',ps,τf,hE,fun k hk=>(hτf k hk).elim id id,hR,fun x hx=>?_,hI'.nodup,hQ,hlen,fun j hj=>hrest j hj fun k o g h=>by simp at h⟩
 obtain ⟨k,hk,rfl⟩:=List.mem_iff_getElem.1 hx
 exact hnew k _ _ (Nat.zero_le _) (List.getElem?_eq_getElem hk)
end
end Go.AM
namespace Go.AM
open Go
section
variable {C:Ctx} {H:Heap} {f:Nat} {T:Cf}
theorem Ev1.dF (hT:Below C T) {args xs:List AV} {aN:List dZ} {fn:Func} {c:Code} {tg0:Nat} {bo:List Nat} {l:List AV}
  (hF:C.P.funcs[f]? = some fn) (hb:fn.body = some c) (hl:aH C f H 0 args = some (xs,aN)) (h0:aN[0]? = some ⟨bo,[tg0]⟩) (hi:aJ xs = []) (hn:xs.length + 1 < bW)
  (h:aj (jV fun fr H1=>aQ C fr H1 fn.results.toList = some l) C T f 0 c (numbered 0 (coerce C xs (aI C f))) [])
  (hv:ids (aO l) = []) (ht:∀ k ∈ tags (aO l),k = 0∨k = 1) (htN:uN (aO l) = []):Ev1 C f args H (ren (fun _ _=>none) (fun k=>if k = 1 then tg0 else 0) (aO l),H):=by
 obtain ⟨⟨ex,fr,H1⟩,⟨he,hr⟩,hrun⟩:=h
 simp only at he hr
 subst he
 have h0':(aN ++ [⟨[],aA (([]:List Nat).map (aZ H))⟩])[0]? = some ⟨bo,[tg0]⟩:=by
  cases aN with
  | nil=>cases h0
  | cons x r=>exact h0
 have hbt:∀ k ∈ tags (aO l),dQ (aN ++ [⟨[],aA (([]:List Nat).map (aZ H))⟩]) k = some (if k = 1 then tg0 else 0):=by
  intro k hk
  rcases ht k hk with rfl | rfl
  ·rfl
  ·unfold dQ
   rw [if_neg (by omega),show 1 - 1 = 0 by omega,h0',if_pos rfl]
   simp [dU,fA]
   exact fun e=>e.symm
 refine Ev1.of (out:=⟨.ret,fr,H1⟩) hT hF hb hl ?_ ?_ (.inr rfl) hr ?_
 ·rw [hi,fM]
  simp only [Bool.and_eq_true,decide_eq_true_eq]
  exact ⟨List.all_eq_true.2 fun x _=>lT x.objs,hn⟩
 ·rw [hi,fM,eu xs hi (fun _ _=>rfl)]
  exact hrun
 ·rw [hi,fM]
  clear h0'
  unfold wrap
  generalize (aN ++ [⟨[],aA (([]:List Nat).map (aZ H))⟩]:List dZ) = L at *
  have hfn:∀ l:List Nat,l.filter (fun o=>([]:List Nat).contains o) = []:=fun l=>by simp
  simp only [List.length_nil,List.range_zero,List.nil_append,hv,fM,List.filter_nil,List.map_nil,aA,cO,htN,List.append_nil,List.flatMap_nil,hfn]
  rw [if_pos (List.all_eq_true.2 fun k hk=>by rw [hbt k hk];rfl)]
  simp only [strike,dw,Option.some.injEq,Prod.mk.injEq,and_true]
  exact gZ _ (fun o g h=>by rw [hv] at h;cases h) (fun k hk=>by unfold AM.dF;rw [hbt k hk];rfl)
end
end Go.AM
