/- The abstract machine, part 4: a deterministic evaluator for the program's code and the proof that what it tells is so. Conditions: none beyond the theorems' own. -/
import Derived.Test.YtbodincpjijdiaaAm3
set_option linter.unusedSimpArgs false
set_option linter.unusedVariables false
set_option maxRecDepth 100000
set_option maxHeartbeats 8000000
namespace Go.AM
def Jj (t:Nat) (H:Heap) (π0:List (Nat × Nat)):List (Nat × Nat)→List Obj→Prop
 | [],[]=>True
 | x :: r,ob0 :: S=>(∃ ob,H[x.1]? = some (some ob)∧Like t π0 x.2 ob0 ob)∧Jj t H π0 r S
 | _,_=>False
theorem Jj.at' {t:Nat} {H:Heap} {π0:List (Nat × Nat)}:∀ {π:List (Nat × Nat)} {S:List Obj},Jj t H π0 π S→∀ (k:Nat) (ob0:Obj),S[k]? = some ob0→∃ o g ob,π[k]? = some (o,g)∧H[o]? = some (some ob)∧Like t π0 g ob0 ob
 | [],[],_,k,ob0,hk=>by simp at hk
 | x :: r,ob1 :: S,h,0,ob0,hk=>by
  obtain ⟨⟨ob,h1,h2⟩,_⟩:=h
  simp at hk
  subst hk
  exact ⟨x.1,x.2,ob,rfl,h1,h2⟩
 | x :: r,ob1 :: S,h,k + 1,ob0,hk=>by
  simpa using Jj.at' h.2 k ob0 (by simpa using hk)
 | [],_ :: _,h,_,_,_=>h.elim
 | _ :: _,[],h,_,_,_=>h.elim
theorem Jj.len {t:Nat} {H:Heap} {π0:List (Nat × Nat)}:∀ {π:List (Nat × Nat)} {S:List Obj},Jj t H π0 π S→π.length = S.length
 | [],[],_=>rfl
 | x :: r,ob1 :: S,h=>by rw [atV,atV,Jj.len h.2]
 | [],_ :: _,h=>h.elim
 | _ :: _,[],h=>h.elim
theorem Img.ofL {t:Nat} {H:Heap} {π:List (Nat × Nat)} {S:List Obj} (h:Jj t H π π S) (hn:(π.map Prod.fst).Nodup):Img t H π S where
 len:=h.len
 nd:=by
  intro j k oj gj ok gk h1 h2 e
  subst e
  have e1:=Img.sZ h1
  have e2:=Img.sZ h2
  obtain ⟨l1,e1⟩:=atD.1 e1
  obtain ⟨l2,e2⟩:=atD.1 e2
  exact (avo hn).1 (e1.trans e2.symm)
 ob:=h.at'
theorem Like.box {t:Nat} {π:List (Nat × Nat)} {g:Nat} {p0:AV} {cap:Option Nat} {z:Nat} {idb:Bool} {tg0:Nat} {ob:Obj} (h:Like t π g ⟨p0,0,cap,z,false,idb,tg0⟩ ob):g = 0∧∃ p τ,ob = ⟨p,0,cap,z,false,idb,τ⟩∧(τ = 0∨τ = t)∧ren idN tz p = ren (fZ π) tz p0∧∀ k ∈ tags p,k = 0∨k = t:=by
 obtain ⟨h1,h2,h3,h4,h5,h6,h7⟩:=h
 obtain ⟨e1,e2,e3⟩:=h5 rfl
 subst e3
 obtain ⟨p,g,cap',z',row,aty,tg⟩:=ob
 simp only at h2 h3 h4 h6 e1 e2 h1 h7
 subst h2 h3 h4 e1 e2
 exact ⟨rfl,p,tg,rfl,h6,h1,h7⟩
theorem Like.UY {t:Nat} {π:List (Nat × Nat)} {p p0:AV} {cap:Option Nat} {z:Nat} {idb:Bool} {tg0 τ:Nat} (h:ren idN tz p = ren (fZ π) tz p0) (hτ:τ = 0∨τ = t) (ht:∀ k ∈ tags p,k = 0∨k = t):Like t π 0 ⟨p0,0,cap,z,false,idb,tg0⟩ ⟨p,0,cap,z,false,idb,τ⟩ :=
 ⟨h,rfl,rfl,rfl,fun _=>⟨rfl,rfl,rfl⟩,hτ,ht⟩
theorem Like.row' {t:Nat} {π:List (Nat × Nat)} {g:Nat} {p0:AV} {cap:Option Nat} {z g0:Nat} {tg0:Nat} {ob:Obj} (h:Like t π g ⟨p0,g0,cap,z,true,false,tg0⟩ ob) (hp:qU p0 = true):RwT p0 g ob.tg ob∧(ob.tg = 0∨ob.tg = t):=by
 refine ⟨⟨?_,h.gen,h.row,h.ids,rfl⟩,h.tg⟩
 have:=h.p
 cases p0 <;> simp only [qU,atO] at hp
 case pb l=>exact Jf this
 case pi k l=>exact abr this
 case pn =>
  cases hq:ob.p <;> rw [hq] at this <;> simp only [ren,idN,reduceCtorEq] at this
def kids (ob:Obj):List Nat:=if ob.ids then ids ob.p else []
def wtF (acc:List Nat):Nat→List Obj→Nat
 | _,[]=>0
 | i,ob :: r=>(if i ∈ acc then 0 else (kids ob).length) + wtF acc (i + 1) r
theorem NH {acc:List Nat} {o:Nat}:∀ (S:List Obj) (i:Nat),o < i→wtF (acc ++ [o]) i S = wtF acc i S
 | [],_,_=>rfl
 | ob :: r,i,h=>by
  unfold wtF
  rw [NH r (i + 1) (by omega)]
  have:(i ∈ acc ++ [o]) ↔ i ∈ acc:=by simp;omega
  simp only [this]
theorem Ru {acc:List Nat} {o:Nat} (ho:o ∉ acc):∀ (S:List Obj) (i:Nat) (ob:Obj),i≤o→S[o - i]? = some ob→wtF (acc ++ [o]) i S + (kids ob).length = wtF acc i S
 | [],_,_,_,h=>by simp at h
 | x :: r,i,ob,hi,h=>by
  by_cases he:i = o
  ·subst he
   simp at h
   subst h
   unfold wtF
   rw [NH r (i + 1) (by omega),if_pos (by simp),if_neg ho]
   omega
  ·have h2:r[o - (i + 1)]? = some ob:=by
    rw [show o - i = (o - (i + 1)) + 1 by omega] at h
    simpa using h
   have:=Ru ho r (i + 1) ob (by omega) h2
   unfold wtF
   have h3:(i ∈ acc ++ [o]) ↔ i ∈ acc:=by simp;omega
   simp only [h3]
   omega
theorem rO {S:List Obj}:∀ (n:Nat) (l acc:List Nat),l.length + wtF acc 0 S≤n →
  (∀ x ∈ acc,x ∈ reach (S.map some) n l acc)∧(∀ x ∈ l,x < S.length→x ∈ reach (S.map some) n l acc)∧(∀ x ob,x ∈ reach (S.map some) n l acc→x ∉ acc→S[x]? = some ob→∀ y ∈ kids ob,y < S.length→y ∈ reach (S.map some) n l acc)
 | 0,[],acc,_=>⟨fun x h=>h,fun x h=>(by cases h),fun x ob h h2=>absurd h h2⟩
 | 0,o :: r,acc,h=>by simp at h
 | n + 1,[],acc,_=>⟨fun x h=>h,fun x h=>(by cases h),fun x ob h h2=>absurd h h2⟩
 | n + 1,o :: r,acc,h=>by
  simp only [atV] at h
  simp only [reach]
  by_cases hm:acc.contains o = true
  ·rw [if_pos hm]
   obtain ⟨h1,h2,h3⟩:=rO (S:=S) n r acc (by omega)
   refine ⟨h1,fun x hx hl=>?_,h3⟩
   rcases atX.1 hx with rfl | hx
   ·exact h1 x (by simpa using hm)
   ·exact h2 x hx hl
  ·rw [if_neg hm]
   have hma:o ∉ acc:=by simpa using hm
   by_cases hl:o < S.length
   ·have hS:(S.map some)[o]? = some (some S[o]):=by rw [atI,atB hl];rfl
    rw [hS]
    simp only
    have hw:=Ru hma S 0 S[o] (by omega) (by simp)
    obtain ⟨h1,h2,h3⟩:=rO (S:=S) n (kids S[o] ++ r) (acc ++ [o]) (by simp only [atQ];omega)
    unfold kids at h1 h2 h3
    refine ⟨fun x hx=>h1 x (by simp [hx]),fun x hx hxl=>?_,fun x ob hx hxa hob y hy hyl=>?_⟩
    ·rcases atX.1 hx with rfl | hx
     ·exact h1 x (by simp)
     ·exact h2 x (by simp [hx]) hxl
    ·by_cases hxo:x = o
     ·subst hxo
      rw [atB hl] at hob
      obtain rfl:=atK hob
      exact h2 y (auS _ hy) hyl
     ·exact h3 x ob hx (by simp [hxa,hxo]) hob y hy hyl
   ·have hS:(S.map some)[o]? = none:=atP (by simpa using hl)
    rw [hS]
    simp only
    obtain ⟨h1,h2,h3⟩:=rO (S:=S) n r acc (by omega)
    refine ⟨h1,fun x hx hxl=>?_,h3⟩
    rcases atX.1 hx with rfl | hx
    ·exact absurd hxl hl
    ·exact h2 x hx hxl
theorem og {S:List Obj} {l:List Nat} (h:l.length + wtF [] 0 S≤aF) {x:Nat} (hx:x ∈ l) (hl:x < S.length):x ∈ reach (S.map some) aF l []:=(rO (S:=S) _ _ _ h).2.1 x hx hl
theorem Bh {S:List Obj} {l:List Nat} (h:l.length + wtF [] 0 S≤aF) {x y:Nat} {ob:Obj} (hx:x ∈ reach (S.map some) aF l []) (hob:S[x]? = some ob) (hy:y ∈ kids ob) (hl:y < S.length):y ∈ reach (S.map some) aF l []:=(rO (S:=S) _ _ _ h).2.2 x ob hx (by simp) hob y hy hl
section
variable {ρ:Nat→Nat→Option (Nat × Nat)} {τ:Nat→Nat} {σ:Nat→Nat}
mutual
theorem KA (h:∀ o g,∃ g',ρ o g = some (σ o,g')):(v:AV)→AM.ids (ren ρ τ v) = (AM.ids v).map σ
 | .ptr o i f g=>by obtain ⟨g',e⟩:=h o g;simp [ren,e,AM.ids]
 | .sl o i f g=>by obtain ⟨g',e⟩:=h o g;simp [ren,e,AM.ids]
 | .map o g=>by obtain ⟨g',e⟩:=h o g;simp [ren,e,AM.ids]
 | .ro c p t=>rfl
 | .iZ p i f t=>rfl
 | .agg p=>by simp only [ren,AM.ids,KA h p]
 | .tup l=>by simp only [ren,AM.ids,uI h l]
 | .fn f l=>by simp only [ren,AM.ids,uI h l]
 | .pc l=>by simp only [ren,AM.ids,uI h l]
 | .pr e l=>by simp only [ren,AM.ids,uI h l]
 | .pm l=>by simp only [ren,AM.ids,uI h l]
 | .top=>rfl
 | .bool _=>rfl
 | .int _ _=>rfl
 | .str _=>rfl
 | .gI=>rfl
 | .jJ=>rfl
 | .iD=>rfl
 | .pn=>rfl
 | .pb _=>rfl
 | .pi _ _=>rfl
theorem uI (h:∀ o g,∃ g',ρ o g = some (σ o,g')):(l:List AV)→aC (bU ρ τ l) = (aC l).map σ
 | []=>rfl
 | a :: r=>by simp only [bU,aC,KA h a,uI h r,auA]
end
theorem RQ (d:Nat) (v:AV):AM.ids (dw d v) = (AM.ids v).map (· + d):=KA (fun o g=>⟨g,rfl⟩) v
theorem Ez (d:Nat) (v:AV):tags (dw d v) = tags v:=by unfold dw;rw [jM];simp
theorem RS {π ex:List (Nat × Nat)} {τ:Nat→Nat} {d:Nat} (hd:π.length = d) (v:AV):ren (fZ (π ++ ex)) τ (dw d v) = ren (fZ ex) τ v:=by
 refine mY (fun o g=>?_) (fun _=>rfl) v
 show (π ++ ex)[o + d]? = ex[o]?
 rw [atJ (by omega)]
 congr 1
 omega
theorem Oj {π:List (Nat × Nat)} {τ:Nat→Nat} {d:Nat} (v:AV):ren (fZ π) τ (dw d v) = ren (fZ (π.drop d)) τ v:=by
 refine mY (fun o g=>?_) (fun _=>rfl) v
 show π[o + d]? = (π.drop d)[o]?
 rw [au2,avD]
end
theorem Like.aoX {t:Nat} {π:List (Nat × Nat)} {g:Nat} {p0:AV} {cap:Option Nat} {z g0:Nat} {tg0:Nat} {ob:Obj} (h:Like t π g ⟨p0,g0,cap,z,true,false,tg0⟩ ob) (hi:AM.ids p0 = []) (ht:tags p0 = []):RwT p0 g ob.tg ob∧(ob.tg = 0∨ob.tg = t):=by
 refine ⟨⟨?_,h.gen,h.row,h.ids,rfl⟩,h.tg⟩
 have h1:ren idN tz ob.p = p0:=by
  rw [h.p]
  show ren (fZ π) tz p0 = p0
  exact gU p0 hi (by simp [ht])
 have h2:AM.ids ob.p = []:=by
  have:=QI.qW (τ:=tz) ob.p
  rw [← this]
  show AM.ids (ren idN tz ob.p) = []
  rw [h1];exact hi
 have h3:tags ob.p = []:=by
  have:=jM (ρ:=idN) (τ:=tz) ob.p
  rw [h1,ht] at this
  exact List.map_eq_nil_iff.1 this.symm
 rw [gU ob.p h2 (by simp [h3])] at h1
 exact h1
theorem Like.UW {t:Nat} {π:List (Nat × Nat)} {g τ:Nat} {p0:AV} {cap:Option Nat} {z g0:Nat} {tg0:Nat} {ob:Obj} (h:RwT p0 g τ ob) (hi:AM.ids p0 = []) (ht:tags p0 = []) (hτ:τ = 0∨τ = t):Like t π g ⟨p0,g0,cap,z,true,false,tg0⟩ ob:=by
 refine ⟨?_,h.g,h.row,h.ids,(fun h=>by cases h),(by rw [h.tg];exact hτ),?_⟩
 ·rw [h.p]
  show ren idN tz p0 = ren (fZ π) tz p0
  rw [gU p0 hi (by simp [ht]),gU p0 hi (by simp [ht])]
 ·rw [h.p,ht];simp
def rwF (p:AV):Obj:=⟨p,0,none,0,true,false,0⟩
def dU (t:Nat) (H:Heap):List (Nat × Nat)→List AV→Prop
 | [],[]=>True
 | x :: r,p :: ps=>(∃ τ ob,(τ = 0∨τ = t)∧H[x.1]? = some (some ob)∧RwT p x.2 τ ob)∧dU t H r ps
 | _,_=>False
theorem dU.len {t:Nat} {H:Heap}:∀ {ex:List (Nat × Nat)} {ps:List AV},dU t H ex ps→ex.length = ps.length
 | [],[],_=>rfl
 | x :: r,p :: ps,h=>by rw [atV,atV,dU.len h.2]
 | [],_ :: _,h=>h.elim
 | _ :: _,[],h=>h.elim
theorem dU.at' {t:Nat} {H:Heap}:∀ {ex:List (Nat × Nat)} {ps:List AV},dU t H ex ps→∀ (k:Nat) (p:AV),ps[k]? = some p→∃ o g τ ob,ex[k]? = some (o,g)∧(τ = 0∨τ = t)∧H[o]? = some (some ob)∧RwT p g τ ob
 | [],[],_,k,p,hk=>by simp at hk
 | x :: r,q :: ps,h,0,p,hk=>by
  obtain ⟨⟨τ,ob,h1,h2,h3⟩,_⟩:=h
  simp at hk
  subst hk
  exact ⟨x.1,x.2,τ,ob,rfl,h1,h2,h3⟩
 | x :: r,q :: ps,h,k + 1,p,hk=>by simpa using dU.at' h.2 k p (by simpa using hk)
 | [],_ :: _,h,_,_,_=>h.elim
 | _ :: _,[],h,_,_,_=>h.elim
theorem dU.of {t:Nat} {H:Heap}:∀ {ex:List (Nat × Nat)} {ps:List AV},ex.length = ps.length→(∀ (k:Nat) (p:AV),ps[k]? = some p→∃ o g τ ob,ex[k]? = some (o,g)∧(τ = 0∨τ = t)∧H[o]? = some (some ob)∧RwT p g τ ob)→dU t H ex ps
 | [],[],_,_=>trivial
 | x :: r,q :: ps,hl,h=>by
  refine ⟨?_,dU.of (by simpa using hl) fun k p hk=>by simpa using h (k + 1) p (by simpa using hk)⟩
  obtain ⟨o,g,τ,ob,h1,h2,h3,h4⟩:=h 0 q rfl
  simp at h1
  subst h1
  exact ⟨τ,ob,h2,h3,h4⟩
 | [],_ :: _,hl,_=>by simp at hl
 | _ :: _,[],hl,_=>by simp at hl
theorem dU.keep {t:Nat} {H H':Heap}:∀ {ex:List (Nat × Nat)} {ps:List AV},dU t H ex ps→(∀ x ∈ ex,H'[x.1]? = H[x.1]?)→dU t H' ex ps
 | [],[],_,_=>trivial
 | x :: r,p :: ps,h,hk=>by
  obtain ⟨⟨τ,ob,h1,h2,h3⟩,h4⟩:=h
  exact ⟨⟨τ,ob,h1,by rw [hk x (auz ..)];exact h2,h3⟩,dU.keep h4 fun y hy=>hk y (auc _ hy)⟩
 | [],_ :: _,h,_=>h.elim
 | _ :: _,[],h,_=>h.elim
theorem dU.lt {t:Nat} {H:Heap} {ex:List (Nat × Nat)} {ps:List AV} (h:dU t H ex ps):∀ x ∈ ex,x.1 < H.length:=by
 intro x hx
 obtain ⟨k,hk,rfl⟩:=avq.1 hx
 have hl:=h.len
 obtain ⟨o,g,τ,ob,h1,_,h3,_⟩:=h.at' k ps[k] (atB (by omega))
 rw [atB hk] at h1
 rw [atK h1]
 exact (atD.1 h3).1
section
variable {t:Nat} {H:Heap} {π ex:List (Nat × Nat)} {S:List Obj} {ps:List AV}
theorem Img.append (h:Img t H π S) (hok:OkS S) (hr:dU t H ex ps) (hf:∀ p ∈ ps,AM.ids p = []∧tags p = []) (hn:(π.map Prod.fst ++ ex.map Prod.fst).Nodup):Img t H (π ++ ex) (S ++ ps.map rwF) where
 len:=by simp [h.len,hr.len]
 nd:=by
  intro j k oj gj ok gk h1 h2 e
  subst e
  have e1:=Img.sZ h1
  have e2:=Img.sZ h2
  rw [auA] at e1 e2
  obtain ⟨l1,e1⟩:=atD.1 e1
  obtain ⟨l2,e2⟩:=atD.1 e2
  exact (avo hn).1 (e1.trans e2.symm)
 ob:=by
  intro k ob0 hk
  by_cases hkl:k < S.length
  ·rw [atE hkl] at hk
   obtain ⟨o,g,ob,h1,h2,h3⟩:=h.ob k ob0 hk
   refine ⟨o,g,ob,by rw [atE (by rw [h.len];exact hkl)];exact h1,h2,⟨?_,h3.gen,h3.row,h3.ids,h3.bx,h3.tg,h3.tp⟩⟩
   rw [h3.p]
   refine gq _ (fun o' g' ho=>?_) fun _ _=>rfl
   have:=hok k ob0 hk o' ho
   unfold fZ
   rw [atE (by rw [h.len];exact this)]
  ·rw [atJ (by omega),atI] at hk
   cases hp:ps[k - S.length]? with
   | none=>rw [hp] at hk;cases hk
   | some p =>
    rw [hp] at hk
    obtain rfl:=atK hk
    obtain ⟨o,g,τ,ob,h1,h2,h3,h4⟩:=hr.at' _ p hp
    obtain ⟨f1,f2⟩:=hf p (atL hp)
    exact ⟨o,g,ob,by rw [atJ (by rw [h.len];omega),h.len];exact h1,h3,Like.UW h4 f1 f2 h2⟩
theorem OkS.rows (hok:OkS S) (hf:∀ p ∈ ps,AM.ids p = []∧tags p = []):OkS (S ++ ps.map rwF):=by
 intro k ob0 hk o ho
 by_cases hkl:k < S.length
 ·rw [atE hkl] at hk
  have:=hok k ob0 hk o ho
  simp;omega
 ·rw [atJ (by omega),atI] at hk
  cases hp:ps[k - S.length]? with
  | none=>rw [hp] at hk;cases hk
  | some p =>
   rw [hp] at hk
   obtain rfl:=atK hk
   have:=(hf p (atL hp)).1
   simp only [rwF] at ho
   rw [this] at ho
   cases ho
theorem Img.pre (h:Img t H π (S ++ ps.map rwF)) (hok:OkS S):Img t H (π.take S.length) S where
 len:=by have:=h.len;simp at this ⊢;omega
 nd:=by
  intro j k oj gj ok gk h1 h2 e
  rw [auC] at h1 h2
  split at h1
  ·split at h2
   ·exact h.nd j k _ _ _ _ h1 h2 e
   ·cases h2
  ·cases h1
 ob:=by
  intro k ob0 hk
  have hkl:=(atD.1 hk).1
  obtain ⟨o,g,ob,h1,h2,h3⟩:=h.ob k ob0 (by rw [atE hkl];exact hk)
  refine ⟨o,g,ob,by rw [auC,if_pos hkl];exact h1,h2,⟨?_,h3.gen,h3.row,h3.ids,h3.bx,h3.tg,h3.tp⟩⟩
  rw [h3.p]
  refine gq _ (fun o' g' ho=>?_) fun _ _=>rfl
  have:=hok k ob0 hk o' ho
  unfold fZ
  rw [auC,if_pos this]
theorem Img.rows (h:Img t H π (S ++ ps.map rwF)) (hf:∀ p ∈ ps,AM.ids p = []∧tags p = []):dU t H (π.drop S.length) ps:=by
 refine dU.of ?_ ?_
 ·have:=h.len
  simp at this ⊢
  omega
 ·intro k p hk
  have hkl:=(atD.1 hk).1
  obtain ⟨o,g,ob,h1,h2,h3⟩:=h.ob (S.length + k) (rwF p) (by rw [atJ (by omega),atI,show S.length + k - S.length = k by omega,hk];rfl)
  obtain ⟨f1,f2⟩:=hf p (atL hk)
  obtain ⟨q1,q2⟩:=Like.aoX h3 f1 f2
  exact ⟨o,g,ob.tg,ob,by rw [au2];exact h1,q2,h2,q1⟩
theorem zH (acc:List Nat) (ps:List AV):∀ i,wtF acc i (ps.map rwF) = 0:=by
 induction ps with
 | nil=>intro i;rfl
 | cons p r ih =>
  intro i
  simp only [aua,wtF,ih]
  simp [kids,rwF]
theorem D7 (acc:List Nat):∀ (S R:List Obj) (i:Nat),wtF acc i (S ++ R) = wtF acc i S + wtF acc (i + S.length) R
 | [],R,i=>by simp [wtF]
 | x :: S,R,i=>by
  simp only [aum,wtF]
  rw [D7 acc S R (i + 1),atV,show i + 1 + S.length = i + (S.length + 1) by omega]
  omega
end
section
variable {C:Ctx} {T:Cf} {f:Nat} {H:Heap}
def Z4 (C:Ctx) (rs:List ResultVar) (n:Nat) (Q:AV→List AV→Prop) (fr:Frame) (E:Heap):Prop :=
 ∃ l ex ps w0,aP C fr E rs = some l∧dU n E ex ps∧(∀ p ∈ ps,ids p = []∧tags p = [])∧(ex.map Prod.fst).Nodup∧(ids w0).length≤1000∧(∀ k ∈ ids w0,k < ex.length)∧(∀ k,k < ex.length→k ∈ ids w0)∧(∀ k ∈ tags w0,k = 0∨k = n)∧aN l = ren (fZ ex) (fun t=>t) w0∧Q w0 ps
theorem Ev1.rows (hT:Below C T) {fn:Func} {c:Code} {n:Nat} {xs ys:List AV} {Q:AV→List AV→Prop}
  (hF:C.P.funcs[f]? = some fn) (hb:fn.body = some c) (hA:fF C f H [] 0 0 xs ys) (hi:aC ys = []) (hn:xs.length + 1 = n) (hng:n < dn)
  (run:aj (jG (Z4 C fn.results.toList n Q)) C T f 0 c (numbered 0 (coerce C ys (aI C f))) []) :
  ∃ H' w0 ex ps τf,Ev1 C f xs H (ren (fZ ex) τf w0,H')∧(∀ k ∈ tags w0,τf k = 0)∧dU 0 H' ex ps∧(∀ x ∈ ex,H.length≤x.1)∧(ex.map Prod.fst).Nodup∧Q w0 ps∧H.length≤H'.length∧(∀ j,j < H.length→H'[j]? = H[j]?):=by
 have hI:∀ t,Img t H [] []:=fun t=>⟨rfl,fun j k oj gj ok gk h1 h2 e=>by simp at h1,fun k ob0 h=>by simp at h⟩
 obtain ⟨π'',S',v0,H',τf,hE,hτf,hI',hok',hid,⟨w0,ps,hS',hv0,hQ,hf⟩,hlen,hfix,hnew,hrest⟩:=Ev1.img (C:=C) (T:=T) (f:=f) (H:=H) (t:=0) (n:=n) (π:=[]) (S:=[]) (xs:=xs) (ys:=ys)
  (Q:=fun S' v0=>∃ w0 ps,S' = ps.map rwF∧v0 = w0∧Q w0 ps∧∀ p ∈ ps,ids p = []∧tags p = []) hT hF hb (hI 0) (fun k ob h=>by simp at h) hA
  (by rw [hi];rfl) hn hng (by
   intro E hEl hEI
   obtain rfl:E = []:=aup hEl
   obtain ⟨out,hout,hrun⟩:=run
   refine ⟨out,⟨hout.1,?_⟩,hrun⟩
   obtain ⟨l,ex,ps,w0,hr,C9,hf,hnd,hw0,hw1,hw2,hw3,hw4,hQ⟩:=hout.2
   have UJ:=C9.len
   have hI0:Img n out.H [] []:=⟨rfl,fun j k oj gj ok gk h1 h2 e=>by simp at h1,fun k ob0 h=>by simp at h⟩
   have hI2:=hI0.append (fun k ob h=>by simp at h) C9 hf (by simpa using hnd)
   have hS:([]:List Obj) ++ ps.map rwF = ps.map rwF:=rfl
   rw [hS,at6] at hI2
   have hok2:OkS (ps.map rwF):=by
    have:=OkS.rows (S:=[]) (fun k ob h=>by simp at h) hf
    exact this
   refine ⟨ex,ps.map rwF,w0,l,hr,hw4,hI2,hok2,hw3,fun k hk=>by rw [auJ];have:=hw1 k hk;omega,auL _,fun k hk=>by simp at hk,fun k ob ob' h=>by simp at h,fun k h1 h2=>?_,w0,ps,rfl,rfl,hQ,hf⟩
   rw [auJ] at h2
   refine og ?_ (avd _ (hw2 k (by omega))) (by rw [auJ];exact h2)
   rw [zH]
   simp only [atY,auZ,at6]
   show _≤100000
   omega)
 subst hS' hv0
 have hR:=Img.rows (S:=[]) (ps:=ps) (by simpa using hI') hf
 rw [atY,auY] at hR
 refine ⟨H',v0,π'',ps,τf,hE,fun k hk=>(hτf k hk).elim id id,hR,fun x hx=>?_,hI'.nodup,hQ,hlen,fun j hj=>hrest j hj fun k o g h=>by simp at h⟩
 obtain ⟨k,hk,rfl⟩:=avq.1 hx
 exact hnew k _ _ (auL _) (atB hk)
end
end Go.AM
namespace Go.AM
open Go
def vT (H:Heap):AV→Nat
 | .ro _ _ t=>t
 | .sl o _ _ g=>match live H o g with
  | some ob=>ob.tg
  | none=>0
 | _=>0
section
variable {C:Ctx} {H:Heap} {f:Nat} {T:Cf}
theorem Ih {k:Nat} {a p:AV} (ha:fC H a = some p):dV H k a = some (.ro (rQ H a) p k,⟨slO a,[vT H a]⟩):=by
 cases a <;> simp only [fC,reduceCtorEq] at ha
 case ro c q t' =>
  simp only [atA] at ha
  subst ha
  rfl
 case sl o off len g =>
  split at ha
  ·rename_i ob hl
   split at ha
   ·cases ha
   ·rename_i hb
    simp [dV,dN,hl,hb,ha,rQ,vT,slO]
  ·cases ha
theorem Ya {aK:List fB} {v:AV} {H1:Heap} {o g k k':Nat} {ob:Obj} (hi:ids v = [o]) (ht:tags v = []) (hl:live H1 o g = some ob) (hob:ob.ids = false) (hp:ids ob.p = []) (hpt:tags ob.p = []) (hpm:∀ l,ob.p ≠ .pm l) (htg:ob.tg = k) (hb:dL aK k = some k') :
  wrap H [] aK v H1 = some (ren (fun o' g'=>if o' = o∧g' = g then some (H.length,0) else none) (fun t=>t) v,H ++ [some { ob with g:=0,tg:=k' }]):=by
 obtain ⟨h1,h2⟩:=bQ.1 hl
 unfold wrap
 have hat:aU H1 o = some ob:=by simp [aU,h1]
 have hρ:ren (bV H [] [o] H1) (bM aK) v = ren (fun o' g'=>if o' = o∧g' = g then some (H.length,0) else none) (fun t=>t) v:=by
  have key:∀ o' g',o' ∈ ids v→bV H [] [o] H1 o' g' = if o' = o∧g' = g then some (H.length,0) else none:=by
   intro o' g' hm
   rw [hi] at hm
   simp only [at7] at hm
   subst hm
   unfold bV
   by_cases hg:g' = g
   ·subst hg
    rw [hl]
    simp [idxOf]
   ·have:live H1 o' g' = none:=by
     simp only [live,h1]
     rw [if_neg (fun e=>hg (e.symm.trans h2))]
    rw [this]
    simp [hg]
  exact gq v (fun o' g' hm=>key o' g' hm) (by simp [ht])
 have hto:dA ob = [k]:=by
  unfold dA
  rw [hob,htg]
  cases hq:ob.p <;> first | rfl | exact absurd hq (hpm _)
 have hB1:bM aK k = k':=by unfold bM;rw [hb];rfl
 have htN:sG v = []:=avr.2 fun t h=>by have:=BM h;rw [ht] at this;cases this
 have abo:kN ob = []:=by unfold kN;rw [if_pos (by simp [hob,hpt])]
 have hfn:∀ l:List Nat,l.filter (fun o=>([]:List Nat).contains o) = []:=fun l=>by simp
 simp only [atY,auZ,at6,hi,xK h1 hob,ht,au,cu,htN,abo,at1,auj,hat,hto,aua,auL,decide_true,avg,aut,bW]
 simp only [avm,awg,hb,av7,awe,if_true,avJ,hfn,strike,atF,atA,atC]
 refine ⟨hρ,?_⟩
 have hr:ren (bV H [] [o] H1) (bM aK) ob.p = ob.p:=gU ob.p hp (by rw [hpt];simp)
 simp only [aT,hr,htg,hB1]
theorem Ev1.newT (hT:Below C T) {args xs:List AV} {aK:List fB} {fn:Func} {c:Code} {n tg0:Nat} {bo:List Nat} {p:AV} {rest:List AV}
  (hF:C.P.funcs[f]? = some fn) (hb:fn.body = some c) (hl:aG C f H 0 args = some (xs,aK)) (h0:aK[0]? = some ⟨bo,[tg0]⟩) (hi:aC xs = []) (hn:xs.length + 1 < dn) (hri:aC rest = []) (hrt:aX rest = []) (hnt:dP rest = true)
  (hpi:ids p = []) (hpt:tags p = []) (hpm:∀ l,p ≠ .pm l)
  (h:aj (nK fun fr H1=>∃ o g τ ob,(τ = 0∨τ = 1)∧aP C fr H1 fn.results.toList = some (.sl o 0 n g :: rest)∧H1[o]? = some (some ob)∧RwT p g τ ob) C T f 0 c (numbered 0 (coerce C xs (aI C f))) []) :
  ∃ τ ob,Ev1 C f args H (aN (.sl H.length 0 n 0 :: rest),H ++ [some ob])∧RwT p 0 τ ob∧(τ = 0∨τ = tg0):=by
 obtain ⟨⟨ex,fr,H1⟩,⟨he,o,g,τ,ob,hτ,hr,ho,hw⟩,hrun⟩:=h
 simp only at he hr ho
 subst he
 have h0':(aK ++ [⟨[],au (([]:List Nat).map (aU H))⟩])[0]? = some ⟨bo,[tg0]⟩:=by
  cases aK with
  | nil=>cases h0
  | cons x r=>exact h0
 have hbk:∃ k',dL (aK ++ [⟨[],au (([]:List Nat).map (aU H))⟩]) τ = some k'∧(k' = 0∨k' = tg0):=by
  rcases hτ with rfl | rfl
  ·exact ⟨0,rfl,.inl rfl⟩
  ·refine ⟨tg0,?_,.inr rfl⟩
   unfold dL
   rw [if_neg (by omega),show 1 - 1 = 0 by omega,h0']
   simp [dD,dO]
   exact fun e=>e.symm
 obtain ⟨k',hk',hk2⟩:=hbk
 refine ⟨k',{ ob with g:=0,tg:=k' },?_,⟨hw.p,rfl,hw.row,hw.ids,rfl⟩,hk2⟩
 refine Ev1.of (out:=⟨.ret,fr,H1⟩) (l:=.sl o 0 n g :: rest) hT hF hb hl ?_ ?_ (.inr rfl) hr ?_
 ·rw [hi,dh]
  simp only [atS,decide_eq_true_eq]
  exact ⟨atT.2 fun x _=>jc x.objs,hn⟩
 ·rw [hi,dh,dS xs hi (fun _ _=>rfl)]
  exact hrun
 ·rw [hi,dh]
  rw [Ya (o:=o) (g:=g) (k:=τ) (k':=k') (ob:=ob) (by rw [je (l:=.sl o 0 n g :: rest) hnt];simp [aC,ids,hri]) (by rw [iH (l:=.sl o 0 n g :: rest) hnt];simp [aX,tags,hrt]) (by simp [live,ho,hw.g]) hw.ids (by rw [hw.p];exact hpi) (by rw [hw.p];exact hpt) (by rw [hw.p];exact hpm) hw.tg hk']
  rw [qX (w:=.sl H.length 0 n 0) (by simp [ren]) (dS rest hri (fun t ht=>rfl)) (by exact hnt) (by exact hnt)]
theorem Ev1.bM (hT:Below C T) {args xs:List AV} {aK:List fB} {fn:Func} {c:Code} {tg0:Nat} {bo:List Nat} {l:List AV}
  (hF:C.P.funcs[f]? = some fn) (hb:fn.body = some c) (hl:aG C f H 0 args = some (xs,aK)) (h0:aK[0]? = some ⟨bo,[tg0]⟩) (hi:aC xs = []) (hn:xs.length + 1 < dn)
  (h:aj (nK fun fr H1=>aP C fr H1 fn.results.toList = some l) C T f 0 c (numbered 0 (coerce C xs (aI C f))) [])
  (hv:ids (aN l) = []) (ht:∀ k ∈ tags (aN l),k = 0∨k = 1) (htN:sG (aN l) = []):Ev1 C f args H (ren (fun _ _=>none) (fun k=>if k = 1 then tg0 else 0) (aN l),H):=by
 obtain ⟨⟨ex,fr,H1⟩,⟨he,hr⟩,hrun⟩:=h
 simp only at he hr
 subst he
 have h0':(aK ++ [⟨[],au (([]:List Nat).map (aU H))⟩])[0]? = some ⟨bo,[tg0]⟩:=by
  cases aK with
  | nil=>cases h0
  | cons x r=>exact h0
 have hbt:∀ k ∈ tags (aN l),dL (aK ++ [⟨[],au (([]:List Nat).map (aU H))⟩]) k = some (if k = 1 then tg0 else 0):=by
  intro k hk
  rcases ht k hk with rfl | rfl
  ·rfl
  ·unfold dL
   rw [if_neg (by omega),show 1 - 1 = 0 by omega,h0',if_pos rfl]
   simp [dD,dO]
   exact fun e=>e.symm
 refine Ev1.of (out:=⟨.ret,fr,H1⟩) hT hF hb hl ?_ ?_ (.inr rfl) hr ?_
 ·rw [hi,dh]
  simp only [atS,decide_eq_true_eq]
  exact ⟨atT.2 fun x _=>jc x.objs,hn⟩
 ·rw [hi,dh,dS xs hi (fun _ _=>rfl)]
  exact hrun
 ·rw [hi,dh]
  clear h0'
  unfold wrap
  generalize (aK ++ [⟨[],au (([]:List Nat).map (aU H))⟩]:List fB) = L at *
  have hfn:∀ l:List Nat,l.filter (fun o=>([]:List Nat).contains o) = []:=fun l=>by simp
  simp only [atY,auZ,at6,hv,dh,aut,auj,au,cu,htN,at1,avJ,hfn]
  rw [if_pos (atT.2 fun k hk=>by rw [hbt k hk];rfl)]
  simp only [strike,bW,atA,atC,and_true]
  exact gq _ (fun o g h=>by rw [hv] at h;cases h) (fun k hk=>by unfold AM.bM;rw [hbt k hk];rfl)
end
end Go.AM
