/- DE to E7: texts of this claim, one behind the other; what each shows stands at its head. -/
import Derived.Test.YtbodincpjijdiaaAm4
import Derived.Test.YtbodincpjijdiaaMg1
set_option linter.unusedSimpArgs false
set_option linter.unusedVariables false
set_option maxRecDepth 100000
set_option maxHeartbeats 8000000
namespace Go.Proofs.Ytbodincpjijdiaa
open Go.AM
theorem TW (K:Nat):pi0 K = pid 0 K:=by
 unfold pi0 pid
 simp
section
variable {c:Nat} {b:List UInt8} {t:Nat} {H:AM.Heap} {o1 o4 om:Nat} {ex:List (Nat × Nat)} {M:Pls}
theorem jd (c:Nat) (b:List UInt8) (M:Pls):(ntS c b M).length = M.length + 3:=by simp [ntS]
theorem WE (c:Nat) (b:List UInt8) (M:Pls):pi0 (ntS c b M).length = (0,0) :: (1,0) :: (2,0) :: pid 3 M.length:=by
 rw [TW,jd,yC,yC,yC]
theorem yD (d n:Nat):(pid d n).map Prod.fst = (List.range n).map (d + ·):=by simp [pid]
theorem BD (c:Nat) (b:List UInt8) (M:Pls) {k:Nat} {y:List UInt8 × List Nat} (h:M[k]? = some y):(ntS c b M)[k + 3]? = some (rwF (gW y.2)):=by
 unfold ntS
 rw [List.getElem?_append_right (by simp)]
 simp [h]
theorem Qp (c:Nat) (b:List UInt8) (M:Pls):OkS (ntS c b M):=by
 intro k ob hk o ho
 rw [jd]
 match k,hk with
 | 0,hk=>cases hk;simp [bxN,ids,aJ] at ho
 | 1,hk=>cases hk;simp [bxN,ids,aJ] at ho;omega
 | 2,hk =>
  cases hk
  simp only [pmO,ids] at ho
  rw [yE (qc 3 _),yD] at ho
  simp at ho
  omega
 | k + 3,hk =>
  have hl:k < M.length:=by
   have:=eY hk
   rw [jd] at this
   omega
  rw [BD c b M (List.getElem?_eq_getElem hl)] at hk
  cases hk
  simp [rwF,gW,ids] at ho
theorem BZ {S:List AM.Obj}:∀ (l:List Nat) (n:Nat) (acc:List Nat),l.length≤n→(∀ x ∈ l,∃ ob,S[x]? = some ob∧ob.ids = false)→(acc ++ l).Nodup→reach (S.map some) n l acc = acc ++ l
 | [],n,acc,_,_,_=>by cases n <;> simp [reach]
 | x :: l,0,acc,h,_,_=>by simp at h
 | x :: l,n + 1,acc,h,hx,hnd=>by
  obtain ⟨ob,h1,h2⟩:=hx x (List.mem_cons_self ..)
  have hna:acc.contains x = false:=by
   rw [List.nodup_append] at hnd
   have:x ∉ acc:=fun hm=>hnd.2.2 x hm x (List.mem_cons_self ..) rfl
   simpa using this
  have hS:(S.map some)[x]? = some (some ob):=by rw [List.getElem?_map,h1];rfl
  simp only [reach]
  rw [hna,hS]
  simp only [h2,Bool.false_eq_true,if_false,List.nil_append]
  rw [BZ l n (acc ++ [x]) (by simp at h;omega) (fun y hy=>hx y (List.mem_cons_of_mem _ hy)) (by simpa using hnd)]
  simp
theorem OG (c:Nat) (b:List UInt8) (M:Pls) (hM:M.length≤2000):reach ((ntS c b M).map some) aG [0,1] [] = List.range (ntS c b M).length:=by
 have e0:((ntS c b M).map some)[0]? = some (some (bxN (.ro c (.pb b) 0) 0)):=rfl
 have e1:((ntS c b M).map some)[1]? = some (some (bxN (.map 2 0) 0)):=rfl
 have e2:((ntS c b M).map some)[2]? = some (some (pmO (ntE (pid 3 M.length) M) 0)):=rfl
 have hr:=BZ (S:=ntS c b M) ((pid 3 M.length).map Prod.fst) (aG - 3) [0,1,2] (by rw [List.length_map,qc];show _≤99997;omega) (by
  intro x hx
  rw [yD] at hx
  obtain ⟨k,hk,rfl⟩:=List.mem_map.1 hx
  have hk:=List.mem_range.1 hk
  refine ⟨rwF (gW (M[k]).2),?_,?_⟩
  ·have:=BD c b M (List.getElem?_eq_getElem hk)
   rwa [show 3 + k = k + 3 by omega]
  ·rfl) (by
  rw [yD]
  rw [List.nodup_append]
  refine ⟨by simp,?_,?_⟩
  ·rw [List.nodup_iff_pairwise_ne,List.pairwise_map]
   refine List.Pairwise.imp_of_mem ?_ (List.nodup_iff_pairwise_ne.1 List.nodup_range)
   intro x y _ _ h e
   omega
  ·intro x hx y hy e
   obtain ⟨k,_,rfl⟩:=List.mem_map.1 hy
   simp at hx
   omega)
 have afv:List.range (M.length + 3) = [0,1,2] ++ (pid 3 M.length).map Prod.fst:=by
  rw [yD]
  rw [Nat.add_comm,List.range_add]
  rfl
 rw [jd,afv,← hr]
 show reach _ (aG - 3 + 1 + 1 + 1) _ _ = _
 generalize aG - 3 = n
 rw [reach,e0]
 simp only [bxN,List.contains_nil,Bool.false_eq_true,if_false,ids,aJ,if_true,List.nil_append]
 rw [reach,e1]
 simp only [bxN,ids,aJ,if_true]
 rw [if_neg (by simp)]
 simp only [List.append_nil,List.cons_append,List.nil_append]
 rw [reach,e2]
 simp only [pmO,ids,if_true,yE (qc 3 _)]
 rw [if_neg (by simp)]
 simp
theorem TY {i:Nat} (h:NtV c b t H o1 o4 om ex M) (hi:i≤100000) (hb:b.length≤100000) (hk:∀ y ∈ M,y.1.length = 3∧y.2.length≤1000000) (hM:M.length≤1500) :
  ∃ H' ex',evT X 59 [.int .i64 (i:Nat),.ptr o1 0 0 0,.ptr o4 0 0 0] H = some (.tup [],H')∧NtV c b t H' o1 o4 om ex' (ntB b M i)∧(∀ (k:Nat) (x:Nat × Nat),ex[k]? = some x→∃ g,ex'[k]? = some (x.1,g))∧(∀ k x,ex.length≤k→ex'[k]? = some x→H.length≤x.1)∧H.length≤H'.length ∧
   (∀ j,j < H.length→j ≠ o1→j ≠ o4→j ≠ om→j ∉ ex.map Prod.fst→H'[j]? = H[j]?):=by
 obtain ⟨code,hc⟩:∃ code,Try.f59.body = some code:=⟨_,rfl⟩
 have hI:=h.img
 have hMl:(ntB b M i).length≤M.length + 1∧M.length≤(ntB b M i).length:=by
  unfold ntB ntM
  split
  ·split <;> simp
  ·omega
 obtain ⟨π'',S',v0,H',τf,hE,hτf,hI',hok',hid,⟨hv0,hS'⟩,hlen,hfix,hnew,hrest⟩:=Ev1.img (C:=X) (T:=evT X) (f:=59) (H:=H) (n:=4) (xs:=[.int .i64 (i:Nat),.ptr o1 0 0 0,.ptr o4 0 0 0]) (ys:=[.int .i64 (i:Nat),.ptr 0 0 0 0,.ptr 1 0 0 0])
  (Q:=fun S' v0=>v0 = .tup []∧S' = ntS c b (ntB b M i)) (bn X) Try.func59 hc hI (Qp c b M)
  (jO.flat rfl rfl (jO.ptr hI rfl (o:=o1) (k:=0) rfl (by rw [jd];omega) (jO.ptr hI rfl (o:=o4) (k:=1) rfl (by rw [jd];omega) jO.nil))) (by
   have:=OG c b M (by omega)
   simpa [aJ,ids] using this) rfl (by simp [bW]) (by
   intro E hEl hEI
   obtain ⟨p1,p4,pm,ex0,hπ,hV⟩:=NtV.xg hEI
   rw [WE] at hπ
   simp only [List.cons.injEq,Prod.mk.injEq,and_true] at hπ
   obtain ⟨rfl,rfl,rfl,rfl⟩:=hπ
   obtain ⟨wM,hc2,ht⟩:=OH (m:=(ntS c b M).length) (i:=i) hV hi hb hk
   rw [hc] at hc2
   obtain rfl:=Option.some.inj hc2
   rw [YG]
   refine ht.mono fun out ho=>⟨ho.1,?_⟩
   obtain ⟨ex',q1,q2,q3⟩:=ho.2
   refine Leaves.plain (S':=ntS c b (ntB b M i)) (l:=[]) rfl rfl rfl rfl q1.img (Qp c b _) (by rw [jd,jd];omega) ?_ ?_ ?_ ⟨rfl,rfl⟩
   ·intro k hk
    rw [jd] at hk
    match k,hk with
    | 0,_=>exact ⟨0,rfl⟩
    | 1,_=>exact ⟨0,rfl⟩
    | 2,_=>exact ⟨0,rfl⟩
    | k + 3,hk =>
     obtain ⟨g,hg⟩:=q2 k (3 + k,0) (Gh (by omega))
     exact ⟨g,by rw [List.getElem?_cons_succ,List.getElem?_cons_succ,List.getElem?_cons_succ,hg,Nat.add_comm]⟩
   ·intro k ob ob' h1 h2
    match k,h1,h2 with
    | 0,h1,h2=>cases h1;cases h2;rfl
    | 1,h1,h2=>cases h1;cases h2;rfl
    | 2,h1,h2=>cases h1;cases h2;rfl
    | k + 3,h1,h2 =>
     have l1:=eY h1
     have l2:=eY h2
     rw [jd] at l1 l2
     rw [BD c b M (List.getElem?_eq_getElem (by omega))] at h1
     rw [BD c b _ (List.getElem?_eq_getElem (by omega))] at h2
     cases h1
     cases h2
     rfl
   ·intro k hk1 hk2
    rw [jd] at hk1 hk2
    have hf:(List.range (ntS c b M).length).length + wtF [] 0 (ntS c b (ntB b M i))≤aG:=by
     rw [List.length_range,jd]
     unfold ntS
     rw [Nu,Ip]
     have h1:wtF [] 0 [bxN (.ro c (.pb b) 0) 0,bxN (.map 2 0) 0,pmO (ntE (pid 3 (ntB b M i).length) (ntB b M i)) 0] = 1 + (ntB b M i).length:=by
      simp [wtF,kids,bxN,pmO,ids,aJ,yE (qc 3 _),qc]
     rw [h1]
     show _≤100000
     omega
    refine OI hf (x:=2) (ob:=pmO (ntE (pid 3 (ntB b M i).length) (ntB b M i)) 0) (Cb hf (List.mem_range.2 (by rw [jd];omega)) (by rw [jd];omega)) rfl ?_ (by rw [jd];omega)
    simp only [kids,pmO,if_true,ids]
    rw [yE (qc 3 _),yD]
    exact List.mem_map.2 ⟨k - 3,List.mem_range.2 (by omega),by omega⟩)
 subst hv0 hS'
 obtain ⟨p1,p4,pm,ex',hπ,hV⟩:=NtV.xg hI'
 subst hπ
 have f0:=hfix 0 o1 0 rfl
 have f1:=hfix 1 o4 0 rfl
 have f2:=hfix 2 om 0 rfl
 simp at f0 f1 f2
 subst f0 f1 f2
 refine ⟨H',ex',dA (by simpa [ren,bZ] using hE),hV,?_,?_,hlen,?_⟩
 ·intro k x hx
  obtain ⟨g,hg⟩:=hfix (k + 3) x.1 x.2 (by rw [List.getElem?_cons_succ,List.getElem?_cons_succ,List.getElem?_cons_succ];exact hx)
  exact ⟨g,by simpa using hg⟩
 ·intro k x hk hx
  exact hnew (k + 3) x.1 x.2 (by rw [jd,← h.len];omega) (by rw [List.getElem?_cons_succ,List.getElem?_cons_succ,List.getElem?_cons_succ];exact hx)
 ·intro j hj h1 h4 hm hx
  refine hrest j hj ?_
  intro k o g hk e
  subst e
  match k,hk with
  | 0,hk=>simp at hk;exact h1 hk.1.symm
  | 1,hk=>simp at hk;exact h4 hk.1.symm
  | 2,hk=>simp at hk;exact hm hk.1.symm
  | k + 3,hk =>
   rw [List.getElem?_cons_succ,List.getElem?_cons_succ,List.getElem?_cons_succ] at hk
   exact hx (List.mem_map.2 ⟨(j,g),List.mem_of_getElem? hk,rfl⟩)
end
end Go.Proofs.Ytbodincpjijdiaa
namespace Go.Proofs.Ytbodincpjijdiaa
open Go.AM
def oQ (b:List UInt8) (p:Nat):List Nat→Nat × Nat→Nat × Nat
 | [],s=>s
 | x :: r,s=>if p - x≤32768∧s.1 < 258 then oQ b p r (if s.1 < bM b x p 258 0 then (bM b x p 258 0,p - x) else s) else s
theorem oU (b:List UInt8) (i k:Nat):∀ (f n:Nat),n≤258→bM b i k f n≤258∧n≤bM b i k f n
 | 0,n,h=>⟨h,Nat.le_refl _⟩
 | f + 1,n,h=>by
  unfold bM
  split
  ·rename_i hc
   have:=oU b i k f (n + 1) (by omega)
   omega
  ·exact ⟨h,Nat.le_refl _⟩
def fnV:AV:=.fn 59 [.ptr 0 0 0 0,.ptr 4 0 0 0]
def pW (v:AV) (p:Nat):AM.Frame:=[(1,.ptr 0 0 0 0),(3,v),(4,.ptr 4 0 0 0),(5,fnV),(6,.int .i64 (p:Nat))]
def kX (v:AV) (p n d o len g:Nat) (I:Int):AM.Frame:=[(1,.ptr 0 0 0 0),(3,v),(4,.ptr 4 0 0 0),(5,fnV),(6,.int .i64 (p:Nat)),(7,.int .i64 (n:Nat)),(8,.int .i64 (d:Nat)),(9,.sl o 0 len g),(10,.int .i64 I)]
section
variable {c:Nat} {b:List UInt8} {t:Nat} {H:AM.Heap} {ex:List (Nat × Nat)} {M:Pls}
theorem WG {m p n d o g τ i:Nat} {l:List Nat} {v:AV} {ob:AM.Obj} {E:AM.Heap} (ho:E[o]? = some (some ob)) (hw:RwT (gW l) g τ ob) (hl:∀ x ∈ l,x < p) (hp:p≤100000) (hi:i≤l.length) (hll:l.length≤100000) :
  ∃ code,((Try.f43.body).bind (aF [1,1,1,1,0,1,0,0,1,0,1,0,1,0,1,1,0,0,0,0])) = some code∧Run X (evT X) 43 m code (kX v p n d o l.length g ((i:Int) - 1)) E ⟨.normal,kX v p n d o l.length g ((i:Int) - 1) ++ [(58,.bool (match l[i - 1]? with | some x=>decide (0 < i) && (decide (p - x≤32768) && decide (n < 258)) | none=>false))],E⟩:=by
 refine ⟨_,rfl,?_⟩
 have q1:=hw.p;have q2:=hw.g;have q4:=hw.ids;have q5:=hw.tg
 simp only [kX,gW] at q1 ⊢
 by_cases h0:i = 0
 ·subst h0
  have e1:(((0:Nat):Int) - 1) = -1:=rfl
  have e2:¬ (0:Int)≤-1:=by omega
  have e3:(match l[0 - 1]? with | some x=>decide (0 < 0) && (decide (p - x≤32768) && decide (n < 258)) | none=>false) = false:=by
   cases l[0 - 1]? <;> rfl
  rw [e1,e3]
  generalize l.length = N at *
  (refine ⟨0,?_⟩;simp (maxSteps:=2000000) -implicitDefEqProofs [-getElem?_pos,go_sem,eqV,ah,e2])
 ·obtain ⟨j,rfl⟩:∃ j,i = j + 1:=⟨i - 1,by omega⟩
  have e1:(((j + 1:Nat):Int) - 1) = (j:Nat):=by omega
  have hjl:j < l.length:=by omega
  obtain ⟨x,hx⟩:∃ x,l[j]? = some x:=⟨_,List.getElem?_eq_getElem hjl⟩
  have hxp:=hl x (List.mem_of_getElem? hx)
  have hx':(l.map Int.ofNat)[j]? = some (x:Int):=by rw [List.getElem?_map,hx];rfl
  have WH:(l.map Int.ofNat).length = l.length:=by simp
  rw [show j + 1 - 1 = j by omega,hx]
  simp only [Nat.zero_lt_succ,decide_true,Bool.true_and]
  rw [e1]
  have w1:IntKind.i64.wrap ((p:Int) - (x:Int)) = ((p - x:Nat):Int):=by rw [wrap_i64 (by omega) (by omega)];omega
  have hjI:(j:Int) < (l.length:Int):=by omega
  generalize l.map Int.ofNat = L at *
  generalize l.length = N at *
  by_cases h1:p - x≤32768
  ·have h1I:((p - x:Nat):Int)≤32768:=by omega
   rw [decide_eq_true h1]
   by_cases h2:n < 258
   ·have h2I:(n:Int) < 258:=by omega
    rw [decide_eq_true h2]
    generalize p - x = px at *
    (refine ⟨0,?_⟩;simp (maxSteps:=2000000) -implicitDefEqProofs [-getElem?_pos,go_sem,eqV,ah,retag,ho,q1,q2,q4,q5,hx',hjI,hjl,WH,w1,h1,h1I,h2,h2I])
   ·have h2I:¬ (n:Int) < 258:=by omega
    rw [decide_eq_false h2]
    generalize p - x = px at *
    (refine ⟨0,?_⟩;simp (maxSteps:=2000000) -implicitDefEqProofs [-getElem?_pos,go_sem,eqV,ah,retag,ho,q1,q2,q4,q5,hx',hjI,hjl,WH,w1,h1,h1I,h2,h2I])
  ·have h1I:¬ ((p - x:Nat):Int)≤32768:=by omega
   rw [decide_eq_false h1]
   generalize p - x = px at *
   (refine ⟨0,?_⟩;simp (maxSteps:=2000000) -implicitDefEqProofs [-getElem?_pos,go_sem,eqV,ah,retag,ho,q1,q2,q4,q5,hx',hjI,hjl,WH,w1,h1,h1I])
theorem Qq {m p n d o g τ j x:Nat} {l:List Nat} {v:AV} {ob:AM.Obj} {E:AM.Heap} {o4 om:Nat} {D:Bool} (hN:NtV c b t E 0 o4 om ex M) (ho:E[o]? = some (some ob)) (hw:RwT (gW l) g τ ob) (hx:l[j]? = some x) (hxp:x < p) (hp:p≤100000) (hb:b.length≤100000) (hll:l.length≤100000) :
  ∃ code,((Try.f43.body).bind (aF [1,1,1,1,0,1,0,0,1,0,1,0,1,0,1,1,0,0,1,0,0,0])) = some code∧Run X (evT X) 43 m code (kX v p n d o l.length g (j:Nat) ++ [(58,.bool D)]) E ⟨.normal,kX v p n d o l.length g (j:Nat) ++ [(11,.int .i64 (bM b x p 258 0:Nat))],E⟩:=by
 refine ⟨_,rfl,?_⟩
 obtain ⟨τ1,τ2,_,_,h1⟩:=hN.bx
 simp only [bxN] at h1
 have q1:=hw.p;have q2:=hw.g;have q4:=hw.ids;have q5:=hw.tg
 simp only [kX,gW] at q1 ⊢
 have hjl:j < l.length:=eY hx
 have hjI:(j:Int) < (l.length:Int):=by omega
 have hx':(l.map Int.ofNat)[j]? = some (x:Int):=by rw [List.getElem?_map,hx];rfl
 have hS:=Ua (H:=E) (a:=.ro c (.pb b) τ1) rfl hxp hb hp
 generalize bM b x p 258 0 = y at *
 generalize l.map Int.ofNat = L at *
 generalize l.length = N at *
 (refine ⟨0,?_⟩;simp (maxSteps:=2000000) -implicitDefEqProofs [-getElem?_pos,go_sem,eqV,ah,retag,h1,ho,q1,q2,q4,q5,hx',hjI,hjl,hS,ak])
theorem Qr {m p n d o g τ j x:Nat} {l:List Nat} {v:AV} {ob:AM.Obj} {E:AM.Heap} {o4 om:Nat} (hN:NtV c b t E 0 o4 om ex M) (ho:E[o]? = some (some ob)) (hw:RwT (gW l) g τ ob) (hx:l[j]? = some x) (hxp:x < p) (hp:p≤100000) (hb:b.length≤100000) (hll:l.length≤100000) (hn:n≤258) (hd:d≤100000) :
  ∃ code,((Try.f43.body).bind (aF [1,1,1,1,0,1,0,0,1,0,1,0,1,0,1,1,0,0,1])) = some code∧Run X (evT X) 43 m code (kX v p n d o l.length g (j:Nat) ++ [(58,.bool true)]) E ⟨.normal,kX v p (if n < bM b x p 258 0 then (bM b x p 258 0,p - x) else (n,d)).1 (if n < bM b x p 258 0 then (bM b x p 258 0,p - x) else (n,d)).2 o l.length g ((j:Int) - 1),E⟩:=by
 refine ⟨_,rfl,?_⟩
 have q1:=hw.p;have q2:=hw.g;have q4:=hw.ids;have q5:=hw.tg
 have hjl:j < l.length:=eY hx
 have hjI:(j:Int) < (l.length:Int):=by omega
 have hx':(l.map Int.ofNat)[j]? = some (x:Int):=by rw [List.getElem?_map,hx];rfl
 have hsb:=(oU b x p 258 0 (by omega)).1
 have w1:IntKind.i64.wrap ((p:Int) - (x:Int)) = ((p - x:Nat):Int):=by rw [wrap_i64 (by omega) (by omega)];omega
 have w2:IntKind.i64.wrap ((j:Int) - 1) = (j:Int) - 1:=by rw [wrap_i64 (by omega) (by omega)]
 by_cases hgt:n < bM b x p 258 0
 ·rw [if_pos hgt]
  have hgI:(n:Int) < (bM b x p 258 0:Nat):=by omega
  apply Run.seq (fr':=kX v p (bM b x p 258 0) (p - x) o l.length g (j:Nat)) (H':=E)
  ·apply Run.block
   ·apply Run.seq (piece (Qq (D:=true) hN ho hw hx hxp hp hb hll) _ rfl)
    apply Run.seq (fr':=kX v p n d o l.length g (j:Nat) ++ [(11,.int .i64 (bM b x p 258 0:Nat)),(70,.bool true)]) (H':=E)
    ·generalize bM b x p 258 0 = y at *
     generalize l.length = N at *
     simp only [kX]
     (refine ⟨0,?_⟩;simp (maxSteps:=2000000) -implicitDefEqProofs [-getElem?_pos,go_sem,eqV,ah,hgI,hgt])
    refine Run.cond (d:=true) (by simp [kX,aC,au]) ?_
    simp only [gW] at q1
    generalize bM b x p 258 0 = y at *
    generalize l.map Int.ofNat = L at *
    generalize l.length = N at *
    generalize p - x = px at *
    simp only [kX]
    (refine ⟨0,?_⟩;simp (maxSteps:=2000000) -implicitDefEqProofs [-getElem?_pos,go_sem,eqV,ah,retag,ho,q1,q2,q4,q5,hx',hjI,hjl,w1,ak])
   ·simp
  ·generalize bM b x p 258 0 = y at *
   generalize l.length = N at *
   simp only [kX]
   (refine ⟨0,?_⟩;simp (maxSteps:=2000000) -implicitDefEqProofs [-getElem?_pos,go_sem,eqV,ah,w2,ak])
 ·rw [if_neg hgt]
  have hgI:¬ (n:Int) < (bM b x p 258 0:Nat):=by omega
  apply Run.seq (fr':=kX v p n d o l.length g (j:Nat) ++ [(11,.int .i64 (bM b x p 258 0:Nat)),(70,.bool false)]) (H':=E)
  ·apply Run.block
   ·apply Run.seq (piece (Qq (D:=true) hN ho hw hx hxp hp hb hll) _ rfl)
    apply Run.seq (fr':=kX v p n d o l.length g (j:Nat) ++ [(11,.int .i64 (bM b x p 258 0:Nat)),(70,.bool false)]) (H':=E)
    ·generalize bM b x p 258 0 = y at *
     generalize l.length = N at *
     simp only [kX]
     (refine ⟨0,?_⟩;simp (maxSteps:=2000000) -implicitDefEqProofs [-getElem?_pos,go_sem,eqV,ah,hgI,hgt])
    refine Run.cond (d:=false) (by simp [kX,aC,au]) ⟨0,rfl⟩
   ·simp
  ·generalize bM b x p 258 0 = y at *
   generalize l.length = N at *
   simp only [kX]
   (refine ⟨0,?_⟩;simp (maxSteps:=2000000) -implicitDefEqProofs [-getElem?_pos,go_sem,eqV,ah,w2,ak])
theorem Ub {m p o g τ:Nat} {l:List Nat} {v:AV} {ob:AM.Obj} {E:AM.Heap} {o4 om:Nat} (hN:NtV c b t E 0 o4 om ex M) (ho:E[o]? = some (some ob)) (hw:RwT (gW l) g τ ob) (hl:∀ x ∈ l,x < p) (hp:p≤100000) (hb:b.length≤100000) (hll:l.length≤100000) :
  ∃ code,((Try.f43.body).bind (aF [1,1,1,1,0,1,0,0,1,0,1,0,1,0,1,1])) = some code∧aj (Goes fun fr E'=>∃ I,fr = kX v p (oQ b p l.reverse (0,0)).1 (oQ b p l.reverse (0,0)).2 o l.length g I ++ [(58,.bool false)]∧E' = E) X (evT X) 43 m code (kX v p 0 0 o l.length g ((l.length:Int) - 1)) E:=by
 refine ⟨_,rfl,?_⟩
 apply aj.block
 refine aj.loop (σ:=Nat × (Nat × Nat)) (fun s=>s.1≤l.length∧s.2.1≤258∧s.2.2≤100000∧oQ b p (l.take s.1).reverse s.2 = oQ b p l.reverse (0,0)) (fun s=>kX v p s.2.1 s.2.2 o l.length g ((s.1:Int) - 1)) (fun _=>E) (fun s=>s.1) ?_ (l.length,(0,0)) ⟨Nat.le_refl _,by simp,by simp,by rw [List.take_length]⟩
 rintro ⟨i,n,d⟩ ⟨hi,hn,hd,hs⟩
 simp only at hi hn hd hs ⊢
 have h10:=WG (m:=m) (p:=p) (n:=n) (d:=d) (v:=v) ho hw hl hp hi hll
 by_cases h0:i = 0
 ·subst h0
  right
  have e3:(match l[0 - 1]? with | some x=>decide (0 < 0) && (decide (p - x≤32768) && decide (n < 258)) | none=>false) = false:=by
   cases l[0 - 1]? <;> rfl
  rw [e3] at h10
  refine ⟨⟨.exit 2,kX v p n d o l.length g (((0:Nat):Int) - 1) ++ [(58,.bool false)],E⟩,⟨rfl,((0:Nat):Int) - 1,?_,rfl⟩,by simp,?_⟩
  ·rw [← hs]
   rfl
  ·refine Run.bH ?_ (by simp)
   apply Run.seq (piece h10 _ rfl)
   refine Run.cond (d:=false) (by simp [kX,aC,au]) ⟨0,rfl⟩
 ·obtain ⟨j,rfl⟩:∃ j,i = j + 1:=⟨i - 1,by omega⟩
  obtain ⟨x,hx⟩:∃ x,l[j]? = some x:=⟨_,List.getElem?_eq_getElem (by omega)⟩
  have hxp:=hl x (List.mem_of_getElem? hx)
  have ht:(l.take (j + 1)).reverse = x :: (l.take j).reverse:=by rw [List.take_add_one,hx];simp
  rw [ht] at hs
  simp only [oQ] at hs
  have e1:(((j + 1:Nat):Int) - 1) = (j:Nat):=by omega
  rw [show j + 1 - 1 = j by omega,hx] at h10
  simp only [Nat.zero_lt_succ,decide_true,Bool.true_and] at h10
  rw [e1] at h10
  rw [e1]
  by_cases hgo:p - x≤32768∧n < 258
  ·rw [if_pos hgo] at hs
   rw [show (decide (p - x≤32768) && decide (n < 258)) = true by simpa using hgo] at h10
   left
   refine ⟨(j,if n < bM b x p 258 0 then (bM b x p 258 0,p - x) else (n,d)),⟨by omega,?_,?_,hs⟩,?_,by simp⟩
   ·have:=(oU b x p 258 0 (by omega)).1
    simp only
    split
    ·exact this
    ·exact hn
   ·simp only
    split
    ·simp only;omega
    ·exact hd
   ·apply Run.seq (fr':=kX v p n d o l.length g (j:Nat) ++ [(58,.bool true)]) (H':=E)
    ·apply Run.seq (piece h10 _ rfl)
     refine Run.cond (d:=true) (by simp [kX,aC,au]) ⟨0,rfl⟩
    ·exact piece (Qr hN ho hw hx hxp hp hb hll hn hd) _ rfl
  ·rw [if_neg hgo] at hs
   rw [show (decide (p - x≤32768) && decide (n < 258)) = false by simpa using hgo] at h10
   right
   refine ⟨⟨.exit 2,kX v p n d o l.length g (j:Nat) ++ [(58,.bool false)],E⟩,⟨rfl,(j:Nat),by rw [← hs],rfl⟩,by simp,?_⟩
   refine Run.bH ?_ (by simp)
   apply Run.seq (piece h10 _ rfl)
   refine Run.cond (d:=false) (by simp [kX,aC,au]) ⟨0,rfl⟩
end
end Go.Proofs.Ytbodincpjijdiaa
namespace Go.Proofs.Ytbodincpjijdiaa
open Go.AM
def lkM (M:Pls) (k:List UInt8):List Nat:=match qE k M 0 with
 | some j=>(M.getD j ([],[])).2
 | none=>[]
def jo (b:List UInt8) (M:Pls) (p:Nat):Nat × Nat:=if p + 3≤b.length then oQ b p (lkM M (jP b p)).reverse (0,0) else (0,0)
def jg (v:AV) (p n d:Nat):AM.Frame:=[(1,.ptr 0 0 0 0),(3,v),(4,.ptr 4 0 0 0),(5,fnV),(6,.int .i64 (p:Nat)),(7,.int .i64 (n:Nat)),(8,.int .i64 (d:Nat))]
section
variable {c:Nat} {b:List UInt8} {t:Nat} {H:AM.Heap} {ex:List (Nat × Nat)} {M:Pls}
theorem WI {m p τ1 τ2 τ3 o g len:Nat} {v:AV} {E:AM.Heap} (h1:E[0]? = some (some (bxN (.ro c (.pb b) τ1) τ2))) (h4:E[4]? = some (some (bxN (.map 3 0) τ3))) (hp:p + 3≤b.length) (hb:b.length≤100000) (hL:kS X E 94 (.map 3 0) (.agg (.pb (jP b p))) false = some (.sl o 0 len g)) :
  ∃ code,((Try.f43.body).bind (aF [1,1,1,1,0,1,0,0,1,0,1,0,1,0,0])) = some code∧Run X (evT X) 43 m code (jg v p 0 0 ++ [(23,.bool true)]) E ⟨.normal,jg v p 0 0 ++ [(9,.sl o 0 len g)],E⟩:=by
 refine ⟨_,rfl,?_⟩
 simp only [bxN] at h1 h4
 obtain ⟨x,hx⟩:∃ x,b[p]? = some x:=⟨_,List.getElem?_eq_getElem (by omega)⟩
 obtain ⟨y,hy⟩:∃ x,b[p + 1]? = some x:=⟨_,List.getElem?_eq_getElem (by omega)⟩
 obtain ⟨z,hz⟩:∃ x,b[p + 2]? = some x:=⟨_,List.getElem?_eq_getElem (by omega)⟩
 rw [key_eq hx hy hz] at hL
 have w1:IntKind.i64.wrap ((p:Int) + 1) = ((p + 1:Nat):Int):=by rw [wrap_i64 (by omega) (by omega)];omega
 have w2:IntKind.i64.wrap ((p:Int) + 2) = ((p + 2:Nat):Int):=by rw [wrap_i64 (by omega) (by omega)];omega
 have l0:p < b.length:=by omega
 have l1:p + 1 < b.length:=by omega
 have l2:p + 2 < b.length:=by omega
 have l0I:(p:Int) < (b.length:Int):=by omega
 have l1I:((p + 1:Nat):Int) < (b.length:Int):=by omega
 have l2I:((p + 2:Nat):Int) < (b.length:Int):=by omega
 simp only [jg]
 generalize p + 1 = p1 at *
 generalize p + 2 = p2 at *
 (refine ⟨0,?_⟩;simp (maxSteps:=2000000) -implicitDefEqProofs [-getElem?_pos,go_sem,eqV,ah,h1,h4,hx,hy,hz,w1,w2,l0,l1,l2,l0I,l1I,l2I,Qs,hL,ak])
theorem emI:bJ X 3 = .pi .i64 []:=by kernel_rfl
theorem WJ {m p τ1 τ2 τ3:Nat} {v:AV} {E:AM.Heap} (h1:E[0]? = some (some (bxN (.ro c (.pb b) τ1) τ2))) (h4:E[4]? = some (some (bxN (.map 3 0) τ3))) (hp:p + 3≤b.length) (hb:b.length≤100000) (hL:kS X E 94 (.map 3 0) (.agg (.pb (jP b p))) false = some (.ro 0 .pn 0)) :
  ∃ code,((Try.f43.body).bind (aF [1,1,1,1,0,1,0,0,1,0,1,0,1,0,0])) = some code∧Run X (evT X) 43 m code (jg v p 0 0 ++ [(23,.bool true)]) E ⟨.normal,jg v p 0 0 ++ [(9,.sl E.length 0 0 0)],E ++ [some (rwF (gW []))]⟩:=by
 refine ⟨_,rfl,?_⟩
 simp only [bxN] at h1 h4
 obtain ⟨x,hx⟩:∃ x,b[p]? = some x:=⟨_,List.getElem?_eq_getElem (by omega)⟩
 obtain ⟨y,hy⟩:∃ x,b[p + 1]? = some x:=⟨_,List.getElem?_eq_getElem (by omega)⟩
 obtain ⟨z,hz⟩:∃ x,b[p + 2]? = some x:=⟨_,List.getElem?_eq_getElem (by omega)⟩
 rw [key_eq hx hy hz] at hL
 have w1:IntKind.i64.wrap ((p:Int) + 1) = ((p + 1:Nat):Int):=by rw [wrap_i64 (by omega) (by omega)];omega
 have w2:IntKind.i64.wrap ((p:Int) + 2) = ((p + 2:Nat):Int):=by rw [wrap_i64 (by omega) (by omega)];omega
 have l0:p < b.length:=by omega
 have l1:p + 1 < b.length:=by omega
 have l2:p + 2 < b.length:=by omega
 have l0I:(p:Int) < (b.length:Int):=by omega
 have l1I:((p + 1:Nat):Int) < (b.length:Int):=by omega
 have l2I:((p + 2:Nat):Int) < (b.length:Int):=by omega
 simp only [jg,rwF,gW,List.map_nil]
 generalize p + 1 = p1 at *
 generalize p + 2 = p2 at *
 (refine ⟨0,?_⟩;simp (maxSteps:=2000000) -implicitDefEqProofs [-getElem?_pos,go_sem,eqV,ah,h1,h4,hx,hy,hz,w1,w2,l0,l1,l2,l0I,l1I,l2I,Qs,hL,ak,rowOf,emI])
theorem YH {m p:Nat} {v:AV} {E:AM.Heap} (h:NtV c b t E 0 4 3 ex M) (hk:∀ y ∈ M,y.1.length = 3) (hp:p + 3≤b.length) (hb:b.length≤100000) :
  ∃ E' o g τ ob,E'[o]? = some (some ob)∧RwT (gW (lkM M (jP b p))) g τ ob∧(∃ r,E' = E ++ r)∧∃ code,((Try.f43.body).bind (aF [1,1,1,1,0,1,0,0,1,0,1,0,1,0,0])) = some code∧Run X (evT X) 43 m code (jg v p 0 0 ++ [(23,.bool true)]) E ⟨.normal,jg v p 0 0 ++ [(9,.sl o 0 (lkM M (jP b p)).length g)],E'⟩:=by
 obtain ⟨τ1,τ2,_,_,h1⟩:=h.bx
 obtain ⟨τ3,_,h4⟩:=h.mb
 obtain ⟨τ5,_,h3⟩:=h.mp
 have hlive:live E 3 0 = some (pmO (ntE ex M) τ5):=by simp [live,h3,pmO]
 obtain ⟨x,hx⟩:∃ x,b[p]? = some x:=⟨_,List.getElem?_eq_getElem (by omega)⟩
 obtain ⟨y,hy⟩:∃ x,b[p + 1]? = some x:=⟨_,List.getElem?_eq_getElem (by omega)⟩
 obtain ⟨z,hz⟩:∃ x,b[p + 2]? = some x:=⟨_,List.getElem?_eq_getElem (by omega)⟩
 have hkey:=key_eq hx hy hz
 have hkl:(jP b p).length = 3:=by rw [hkey];rfl
 have hfit:rW X 94 (.agg (.pb (jP b p))) = true:=by rw [hkey];exact YI x y z
 unfold lkM
 cases hidx:qE (jP b p) M 0 with
 | some j =>
  obtain ⟨⟨o,g⟩,l,f1,f2,f3⟩:=mW (ex:=ex) h.len (fun y hy=>by rw [hk y hy,hkl]) hidx
  simp only [Nat.sub_zero] at f1 f2
  have hL:kS X E 94 (.map 3 0) (.agg (.pb (jP b p))) false = some (.sl o 0 l.length g):=by
   unfold kS
   rw [hfit]
   simp only [Bool.true_eq_false,if_false,hlive,pmO]
   rw [f3]
   rfl
  obtain ⟨o',g',τ,ob,r1,r2,r3,r4⟩:=h.rows.at' j (gW l) (by rw [List.getElem?_map,f2];rfl)
  rw [f1] at r1
  obtain ⟨rfl,rfl⟩:o = o'∧g = g':=by simpa using r1
  have hg:(M.getD j ([],[])).2 = l:=by rw [List.getD_eq_getElem?_getD,f2];rfl
  simp only [hg]
  exact ⟨E,o,g,τ,ob,r3,r4,⟨[],by simp⟩,WI h1 h4 hp hb hL⟩
 | none =>
  have f3:=lD (ex:=ex) h.len (fun y hy=>by rw [hk y hy,hkl]) hidx
  have hL:kS X E 94 (.map 3 0) (.agg (.pb (jP b p))) false = some (.ro 0 .pn 0):=by
   unfold kS
   rw [hfit]
   simp only [Bool.true_eq_false,if_false,hlive,pmO]
   rw [f3]
   simp [VB]
  exact ⟨E ++ [some (rwF (gW []))],E.length,0,0,rwF (gW []),by simp,⟨rfl,rfl,rfl,rfl,rfl⟩,⟨_,rfl⟩,WJ h1 h4 hp hb hL⟩
theorem YJ {m p τ1 τ2:Nat} {v:AV} {E:AM.Heap} (h1:E[0]? = some (some (bxN (.ro c (.pb b) τ1) τ2))) (hp:p≤100000):∃ code,((Try.f43.body).bind (aF [1,1,1,1,0,1,0,0,1,0,1,0,0])) = some code∧Run X (evT X) 43 m code (jg v p 0 0) E ⟨.normal,jg v p 0 0 ++ [(23,.bool (decide (p + 3≤b.length)))],E⟩:=by
 refine ⟨_,rfl,?_⟩
 simp only [bxN] at h1
 simp only [jg]
 have w1:IntKind.i64.wrap ((p:Int) + 3) = ((p + 3:Nat):Int):=by rw [wrap_i64 (by omega) (by omega)];omega
 by_cases hl:p + 3≤b.length
 ·have hlI:((p + 3:Nat):Int)≤(b.length:Int):=by omega
  rw [decide_eq_true hl]
  generalize p + 3 = p3 at *
  (refine ⟨0,?_⟩;simp (maxSteps:=2000000) -implicitDefEqProofs [-getElem?_pos,go_sem,eqV,ah,h1,w1,hl,hlI])
 ·have hlI:¬ ((p + 3:Nat):Int)≤(b.length:Int):=by omega
  rw [decide_eq_false hl]
  generalize p + 3 = p3 at *
  (refine ⟨0,?_⟩;simp (maxSteps:=2000000) -implicitDefEqProofs [-getElem?_pos,go_sem,eqV,ah,h1,w1,hl,hlI])
theorem Uc {m p:Nat} {v:AV} {E:AM.Heap} (h:NtV c b t E 0 4 3 ex M) (hk:∀ y ∈ M,y.1.length = 3∧y.2.length≤100000∧∀ x ∈ y.2,x < p) (hp:p≤100000) (hb:b.length≤100000) :
  ∃ code,((Try.f43.body).bind (aF [1,1,1,1,0,1,0,0,1,0,1,0])) = some code∧aj (Goes fun fr E'=>bY [1,3,4,5,6,7,8] fr = jg v p (jo b M p).1 (jo b M p).2∧∃ r,E' = E ++ r) X (evT X) 43 m code (jg v p 0 0) E:=by
 refine ⟨_,rfl,?_⟩
 obtain ⟨τ1,τ2,_,_,h1⟩:=h.bx
 apply aj.seq (piece (YJ h1 hp) _ rfl)
 unfold jo
 by_cases hl:p + 3≤b.length
 ·rw [decide_eq_true hl,if_pos hl]
  refine aj.Qo (by simp [jg,aC,au]) ?_
  obtain ⟨E',o,g,τ,ob,k1,k2,⟨r,rfl⟩,hr⟩:=YH (m:=m) (v:=v) h (fun y hy=>(hk y hy).1) hl hb
  apply aj.seq (piece hr _ rfl)
  have hN:=h.cat r
  have hlk:(∀ x ∈ lkM M (jP b p),x < p)∧(lkM M (jP b p)).length≤100000:=by
   unfold lkM
   cases hidx:qE (jP b p) M 0 with
   | none=>simp
   | some j =>
    obtain ⟨_,l,hM⟩:=rX hidx
    rw [Nat.sub_zero] at hM
    have hg:M.getD j ([],[]) = (jP b p,l):=by rw [List.getD_eq_getElem?_getD,hM];rfl
    simp only [hg]
    have:=hk _ (List.mem_of_getElem? hM)
    exact ⟨this.2.2,this.2.1⟩
  generalize lkM M (jP b p) = l at *
  apply aj.seq (fr':=kX v p 0 0 o l.length g ((l.length:Int) - 1)) (H':=E ++ r)
  ·have hg:=k2.g
   have w1:IntKind.i64.wrap ((l.length:Int) - 1) = (l.length:Int) - 1:=by rw [wrap_i64 (by omega) (by omega)]
   generalize l.length = N at *
   simp only [kX,jg]
   (refine ⟨0,?_⟩;simp (maxSteps:=2000000) -implicitDefEqProofs [-getElem?_pos,go_sem,eqV,ah,k1,hg,w1,ak])
  refine (piece (Ub (m:=m) (v:=v) hN k1 k2 hlk.1 hp hb hlk.2) _ rfl).mono ?_
  rintro ⟨ex',fr,E'⟩ ⟨he,I,hfr,hE⟩
  simp only at he hfr hE
  subst hfr hE
  exact ⟨he,by simp [kX,jg,bY,au],r,rfl⟩
 ·rw [decide_eq_false hl,if_neg hl]
  refine aj.YK (by simp [jg,aC,au]) ?_
  exact aj.of (o:=⟨.normal,jg v p 0 0 ++ [(23,.bool false)],E⟩) ⟨0,rfl⟩ ⟨rfl,by simp [jg,bY,au],[],by simp⟩
end
end Go.Proofs.Ytbodincpjijdiaa
namespace Go.Proofs.Ytbodincpjijdiaa
open Go.AM
structure Pc where
 len:Nat
 dist:Nat
 byte:UInt8
deriving DecidableEq
def pcR (x:Pc):AV:=.pc [.int .i64 (x.len:Nat),.int .i64 (x.dist:Nat),.int .u8 (x.byte.toNat:Nat)]
def pcO (x:Pc):AM.Obj:=⟨pcR x,0,some 3,1,false,true,0⟩
def dO (b:List UInt8) (M:Pls) (p:Nat):Pc:=if 3≤(jo b M p).1 then ⟨(jo b M p).1,(jo b M p).2,0⟩ else ⟨0,0,b.getD p 0⟩
theorem VD (y:Int):qB X 91 [(2,.int .u8 y)] = some (.agg (.pc [.int .i64 0,.int .i64 0,.int .u8 y])):=by kernel_rfl
theorem VE (n d:Int):qB X 91 [(0,.int .i64 n),(1,.int .i64 d)] = some (.agg (.pc [.int .i64 n,.int .i64 d,.int .u8 0])):=by kernel_rfl
theorem Ud (l:List AV):mG X 91 l = some (.pc l):=by kernel_rfl
theorem WL (H:AM.Heap) (n d y:Int):bP X H 75 1 [(0,.agg (.pc [.int .i64 n,.int .i64 d,.int .u8 y]))] = some (.ro 1 (.pr 3 [.pc [.int .i64 n,.int .i64 d,.int .u8 y]]) 0,H):=by kernel_rfl
section
variable {c:Nat} {b:List UInt8} {t:Nat} {H:AM.Heap} {ex:List (Nat × Nat)} {M:Pls}
def oC (v:AV) (p q:Nat):AM.Frame:=[(1,.ptr 0 0 0 0),(3,v),(4,.ptr 4 0 0 0),(5,fnV),(6,.int .i64 (p:Nat)),(12,.ptr q 0 0 0)]
def qY (v:AV) (p n i:Nat):AM.Frame:=[(1,.ptr 0 0 0 0),(3,v),(4,.ptr 4 0 0 0),(5,fnV),(6,.int .i64 (p:Nat)),(94,.int .i64 (n:Nat)),(95,.int .i64 (i:Nat))]
theorem WM {m p n d τ1 τ2:Nat} {y:UInt8} {v:AV} {fr:AM.Frame} {E:AM.Heap} (hf:bY [1,3,4,5,6,7,8] fr = jg v p n d) (h1:E[0]? = some (some (bxN (.ro c (.pb b) τ1) τ2))) (hy:b[p]? = some y) (hb:b.length≤100000) :
  ∃ code,((Try.f43.body).bind (aF [1,1,1,1,0,1,0,0,1,0,1,1,0])) = some code∧Run X (evT X) 43 m code fr E ⟨.normal,jg v p n d ++ [(12,.ptr E.length 0 0 0)],E ++ [some (pcO ⟨0,0,y⟩)]⟩:=by
 refine ⟨_,rfl,?_⟩
 simp only [bxN] at h1
 have g1:au fr 1 = .ptr 0 0 0 0:=by simpa [bY,jg,au] using congrArg (fun f=>au f 1) hf
 have g3:au fr 3 = v:=by simpa [bY,jg,au] using congrArg (fun f=>au f 3) hf
 have g4:au fr 4 = .ptr 4 0 0 0:=by simpa [bY,jg,au] using congrArg (fun f=>au f 4) hf
 have g5:au fr 5 = fnV:=by simpa [bY,jg,au] using congrArg (fun f=>au f 5) hf
 have g6:au fr 6 = .int .i64 (p:Nat):=by simpa [bY,jg,au] using congrArg (fun f=>au f 6) hf
 have g7:au fr 7 = .int .i64 (n:Nat):=by simpa [bY,jg,au] using congrArg (fun f=>au f 7) hf
 have g8:au fr 8 = .int .i64 (d:Nat):=by simpa [bY,jg,au] using congrArg (fun f=>au f 8) hf
 have hp:=eY hy
 have hpI:(p:Int) < (b.length:Int):=by omega
 simp only [jg,pcO,pcR]
 (refine ⟨0,?_⟩;simp (maxSteps:=2000000) -implicitDefEqProofs [-getElem?_pos,go_sem,eqV,ah,g1,g3,g4,g5,g6,g7,g8,h1,hy,hp,hpI,VD,FY,Bl,splice,jC,scalars,scalar])
theorem WO {m p n d q:Nat} {y:UInt8} {v:AV} {E:AM.Heap} (hq:E[q]? = some (some (pcO ⟨0,0,y⟩))):∃ code,((Try.f43.body).bind (aF [1,1,1,1,0,1,0,0,1,0,1,1,1,0])) = some code∧∃ fr',Run X (evT X) 43 m code (jg v p n d ++ [(12,.ptr q 0 0 0)]) E ⟨.normal,fr',if 3≤n then upd E q (some (pcO ⟨n,d,0⟩)) else E⟩∧bY [1,3,4,5,6,12] fr' = oC v p q:=by
 refine ⟨_,rfl,?_⟩
 by_cases hn:3≤n
 ·rw [if_pos hn]
  refine ⟨oC v p q,?_,by simp [oC,bY,au]⟩
  have hnI:(3:Int)≤(n:Int):=by omega
  apply Run.seq (fr':=jg v p n d ++ [(12,.ptr q 0 0 0),(84,.bool true)]) (H':=E)
  ·simp only [jg]
   (refine ⟨0,?_⟩;simp (maxSteps:=2000000) -implicitDefEqProofs [-getElem?_pos,go_sem,eqV,ah,hnI,hn])
  refine Run.cond (d:=true) (by simp [jg,aC,au]) ?_
  simp only [jg,oC,pcO,pcR] at hq ⊢
  (refine ⟨0,?_⟩;simp (maxSteps:=2000000) -implicitDefEqProofs [-getElem?_pos,go_sem,eqV,ah,hq,VE,splice,jC,scalars,scalar])
 ·rw [if_neg hn]
  refine ⟨jg v p n d ++ [(12,.ptr q 0 0 0),(84,.bool false)],?_,by simp [jg,oC,bY,au]⟩
  have hnI:¬ (3:Int)≤(n:Int):=by omega
  apply Run.seq (fr':=jg v p n d ++ [(12,.ptr q 0 0 0),(84,.bool false)]) (H':=E)
  ·simp only [jg]
   (refine ⟨0,?_⟩;simp (maxSteps:=2000000) -implicitDefEqProofs [-getElem?_pos,go_sem,eqV,ah,hnI,hn])
  exact Run.cond (d:=false) (by simp [jg,aC,au]) ⟨0,rfl⟩
theorem WQ {m p q N g:Nat} {x:Pc} {v:AV} {fr:AM.Frame} {E E':AM.Heap} (hf:bY [1,3,4,5,6,12] fr = oC v p q) (hq:E[q]? = some (some (pcO x))) (hA:bD X E 75 v (.ro 1 (.pr 3 [pcR x]) 0) = some (.sl 2 0 N g,E')) :
  ∃ code,((Try.f43.body).bind (aF [1,1,1,1,0,1,0,0,1,0,1,1,1,1,0])) = some code∧Run X (evT X) 43 m code fr E ⟨.normal,oC (.sl 2 0 N g) p q,E'⟩:=by
 refine ⟨_,rfl,?_⟩
 have g1:au fr 1 = .ptr 0 0 0 0:=by simpa [bY,oC,au] using congrArg (fun f=>au f 1) hf
 have g3:au fr 3 = v:=by simpa [bY,oC,au] using congrArg (fun f=>au f 3) hf
 have g4:au fr 4 = .ptr 4 0 0 0:=by simpa [bY,oC,au] using congrArg (fun f=>au f 4) hf
 have g5:au fr 5 = fnV:=by simpa [bY,oC,au] using congrArg (fun f=>au f 5) hf
 have g6:au fr 6 = .int .i64 (p:Nat):=by simpa [bY,oC,au] using congrArg (fun f=>au f 6) hf
 have g7:au fr 12 = .ptr q 0 0 0:=by simpa [bY,oC,au] using congrArg (fun f=>au f 12) hf
 simp only [oC,pcO,pcR] at hq hA ⊢
 (refine ⟨0,?_⟩;simp (maxSteps:=2000000) -implicitDefEqProofs [-getElem?_pos,go_sem,eqV,ah,g1,g3,g4,g5,g6,g7,hq,hA,WL,Ud,kE,retag,ak])
theorem WR {m p q:Nat} {x:Pc} {v:AV} {E:AM.Heap} (hq:E[q]? = some (some (pcO x))) :
  ∃ code,((Try.f43.body).bind (aF [1,1,1,1,0,1,0,0,1,0,1,1,1,1,1,0])) = some code∧Run X (evT X) 43 m code (oC v p q) E ⟨.normal,qY v p (max 1 x.len) 0,E⟩:=by
 refine ⟨_,rfl,?_⟩
 simp only [oC,qY,pcO,pcR] at hq ⊢
 by_cases h:1≤x.len
 ·rw [Nat.max_eq_right h]
  have hI:(1:Int)≤(x.len:Int):=by omega
  have hI2:max 1 (x.len:Int) = (x.len:Int):=by omega
  have hI3:¬ (x.len:Int) < 1:=by omega
  (refine ⟨0,?_⟩;simp (maxSteps:=2000000) -implicitDefEqProofs [-getElem?_pos,go_sem,eqV,ah,hq,h,hI,hI2,hI3,jf])
  intro hx
  omega
 ·have h0:x.len = 0:=by omega
  rw [h0] at hq ⊢
  (refine ⟨0,?_⟩;simp (maxSteps:=2000000) -implicitDefEqProofs [-getElem?_pos,go_sem,eqV,ah,hq,jf])
end
end Go.Proofs.Ytbodincpjijdiaa
namespace Go.Proofs.Ytbodincpjijdiaa
open Go.AM
def qF (b:List UInt8) (M:Pls) (p:Nat):Nat→Pls
 | 0=>M
 | k + 1=>ntB b (qF b M p k) (p + k)
def lQ (b:List UInt8):Nat→Pls→Nat→List Pc
 | 0,_,_=>[]
 | f + 1,M,p=>if p < b.length then dO b M p :: lQ b f (qF b M p (max 1 (dO b M p).len)) (p + max 1 (dO b M p).len) else []
def zG (M:Pls) (p:Nat):Prop:=M.length≤p∧∀ y ∈ M,y.1.length = 3∧y.2.length≤p∧∀ x ∈ y.2,x < p
theorem zG.nt {b:List UInt8} {M:Pls} {p:Nat} (h:zG M p):zG (ntB b M p) (p + 1):=by
 unfold ntB
 by_cases hl:p + 3≤b.length
 ·rw [if_pos hl]
  have hkl:(jP b p).length = 3:=by unfold jP;rw [List.length_take,List.length_drop];omega
  cases hidx:qE (jP b p) M 0 with
  | none =>
   rw [Nv hidx]
   refine ⟨by simp;exact h.1,?_⟩
   intro y hy
   rcases List.mem_append.1 hy with hy | hy
   ·obtain ⟨a1,a2,a3⟩:=h.2 y hy
    exact ⟨a1,by omega,fun x hx=>by have:=a3 x hx;omega⟩
   ·rw [List.mem_singleton.1 hy]
    refine ⟨hkl,by simp,fun x hx=>?_⟩
    rw [List.mem_singleton.1 hx]
    omega
  | some j =>
   obtain ⟨_,l,hl2⟩:=rX hidx
   rw [Nat.sub_zero] at hl2
   rw [Nw hidx hl2]
   refine ⟨by simp;have:=h.1;omega,?_⟩
   intro y hy
   rcases List.mem_or_eq_of_mem_set hy with hy | rfl
   ·obtain ⟨a1,a2,a3⟩:=h.2 y hy
    exact ⟨a1,by omega,fun x hx=>by have:=a3 x hx;omega⟩
   ·obtain ⟨a1,a2,a3⟩:=h.2 _ (List.mem_of_getElem? hl2)
    refine ⟨hkl,by simp;exact a2,fun x hx=>?_⟩
    rcases List.mem_append.1 hx with hx | hx
    ·have:=a3 x hx;omega
    ·rw [List.mem_singleton.1 hx];omega
 ·rw [if_neg hl]
  refine ⟨by have:=h.1;omega,fun y hy=>?_⟩
  obtain ⟨a1,a2,a3⟩:=h.2 y hy
  exact ⟨a1,by omega,fun x hx=>by have:=a3 x hx;omega⟩
theorem zG.up {b:List UInt8} {M:Pls} {p:Nat} (h:zG M p):∀ k,zG (qF b M p k) (p + k)
 | 0=>h
 | k + 1=>by
  have:=(zG.up (b:=b) h k).nt (b:=b)
  exact this
theorem vI (b:List UInt8) (i k:Nat):∀ (f n:Nat),k + n≤b.length→k + bM b i k f n≤b.length
 | 0,n,h=>h
 | f + 1,n,h=>by
  unfold bM
  split
  ·exact vI b i k f (n + 1) (by omega)
  ·exact h
theorem Iq (b:List UInt8) (p:Nat) (hp:p≤b.length):∀ (l:List Nat) (s:Nat × Nat),p + s.1≤b.length→s.1≤258→p + (oQ b p l s).1≤b.length∧(oQ b p l s).1≤258
 | [],s,h,h2=>⟨h,h2⟩
 | x :: r,s,h,h2=>by
  unfold oQ
  split
  ·refine Iq b p hp r _ ?_ ?_
   ·split
    ·exact vI b x p 258 0 (by omega)
    ·exact h
   ·split
    ·exact (oU b x p 258 0 (by omega)).1
    ·exact h2
  ·exact ⟨h,h2⟩
theorem Ir {b:List UInt8} {M:Pls} {p:Nat} (hp:p≤b.length):p + (jo b M p).1≤b.length∧(jo b M p).1≤258:=by
 unfold jo
 split
 ·exact Iq b p hp _ _ (by simpa using hp) (by simp)
 ·exact ⟨by simpa using hp,by simp⟩
theorem qZ {b:List UInt8} {M:Pls} {p:Nat} (hp:p < b.length):p + max 1 (dO b M p).len≤b.length:=by
 have:=Ir (M:=M) (Nat.le_of_lt hp)
 unfold dO
 split <;> simp only <;> omega
section
variable {c:Nat} {b:List UInt8} {t:Nat} {H:AM.Heap} {ex:List (Nat × Nat)} {M:Pls}
structure PcV (c:Nat) (b:List UInt8) (t:Nat) (E:AM.Heap) (v:AV) (L:List Pc) (ex:List (Nat × Nat)) (M:Pls):Prop where
 nt:NtV c b t E 0 4 3 ex M
 row:∃ g ob,v = .sl 2 0 L.length g∧E[2]? = some (some ob)∧Rw (.pr 3 (L.map pcR)) g ob
 off:∀ x ∈ ex,x.1 ≠ 2
theorem WS {m p n i:Nat} {v:AV} {E E':AM.Heap} (hp:p≤100000) (hi:i≤100000) (hE:evT X 59 [.int .i64 (p:Nat),.ptr 0 0 0 0,.ptr 4 0 0 0] E = some (.tup [],E')):∃ code,((Try.f43.body).bind (aF [1,1,1,1,0,1,0,0,1,0,1,1,1,1,1,1,0,0,1,1])) = some code∧Run X (evT X) 43 m code (qY v p n i ++ [(96,.bool true)]) E ⟨.normal,qY v (p + 1) n (i + 1),E'⟩:=by
 refine ⟨_,rfl,?_⟩
 have w1:IntKind.i64.wrap ((p:Int) + 1) = ((p + 1:Nat):Int):=by rw [wrap_i64 (by omega) (by omega)];omega
 have w2:IntKind.i64.wrap ((i:Int) + 1) = ((i + 1:Nat):Int):=by rw [wrap_i64 (by omega) (by omega)];omega
 apply Run.seq (fr':=qY v (p + 1) n i) (H':=E')
 ·apply Run.block
  ·apply Run.seq (fr':=qY v p n i) (H':=E')
   ·simp only [qY,fnV]
    (refine ⟨0,?_⟩;simp (maxSteps:=2000000) -implicitDefEqProofs [-getElem?_pos,go_sem,eqV,ah,hE])
   ·generalize p + 1 = p1 at *
    simp only [qY,fnV]
    (refine ⟨0,?_⟩;simp (maxSteps:=2000000) -implicitDefEqProofs [-getElem?_pos,go_sem,eqV,ah,w1,ak])
  ·simp
 ·generalize p + 1 = p1 at *
  generalize i + 1 = i1 at *
  simp only [qY,fnV]
  (refine ⟨0,?_⟩;simp (maxSteps:=2000000) -implicitDefEqProofs [-getElem?_pos,go_sem,eqV,ah,w2])
theorem PcV.note {p:Nat} {v:AV} {L:List Pc} {E:AM.Heap} (h:PcV c b t E v L ex M) (hM:zG M p) (hp:p≤1400) (hb:b.length≤1400):∃ E' ex',evT X 59 [.int .i64 (p:Nat),.ptr 0 0 0 0,.ptr 4 0 0 0] E = some (.tup [],E')∧PcV c b t E' v L ex' (ntB b M p)∧E.length≤E'.length:=by
 obtain ⟨E',ex',h1,h2,h3,h4,h5,h6⟩:=TY (i:=p) h.nt (by omega) (by omega) (fun y hy=>⟨(hM.2 y hy).1,by have:=(hM.2 y hy).2.1;omega⟩) (by have:=hM.1;omega)
 obtain ⟨g,ob,rfl,ho,hw⟩:=h.row
 have hl:=eY ho
 refine ⟨E',ex',h1,⟨h2,⟨g,ob,rfl,?_,hw⟩,?_⟩,h5⟩
 ·rw [h6 2 hl (by omega) (by omega) (by omega) (fun hm=>by
   obtain ⟨x,hx,hx2⟩:=List.mem_map.1 hm
   exact h.off x hx hx2)]
  exact ho
 ·intro x hx
  obtain ⟨k,hk,rfl⟩:=List.mem_iff_getElem.1 hx
  by_cases hkl:k < ex.length
  ·obtain ⟨g2,hg2⟩:=h3 k _ (List.getElem?_eq_getElem hkl)
   rw [List.getElem?_eq_getElem hk] at hg2
   rw [Option.some.inj hg2]
   have:=h.off _ (List.getElem_mem hkl)
   exact this
  ·have:=h4 k _ (by omega) (List.getElem?_eq_getElem hk)
   omega
theorem Ue {m p n:Nat} {v:AV} {L:List Pc} {E:AM.Heap} (h:PcV c b t E v L ex M) (hM:zG M p) (hp:p + n≤b.length) (hb:b.length≤1400) :
  ∃ code,((Try.f43.body).bind (aF [1,1,1,1,0,1,0,0,1,0,1,1,1,1,1,1])) = some code∧aj (Goes fun fr E'=>fr = qY v (p + n) n n ++ [(96,.bool false)]∧∃ ex',PcV c b t E' v L ex' (qF b M p n)) X (evT X) 43 m code (qY v p n 0) E:=by
 refine ⟨_,rfl,?_⟩
 apply aj.block
 refine aj.kJ (I:=fun q fr E'=>∃ i ex',i≤n∧q = n - i∧fr = qY v (p + i) n i∧PcV c b t E' v L ex' (qF b M p i)) ?_ (k:=n) ⟨0,ex,by omega,rfl,rfl,h⟩
 rintro q fr E' ⟨i,ex',hi,rfl,rfl,hV⟩
 by_cases hin:i = n
 ·subst hin
  refine aj.of (o:=⟨.exit 4,qY v (p + i) i i ++ [(96,.bool false)],E'⟩) ?_ (.inr ⟨by simp,rfl,rfl,ex',hV⟩)
  generalize p + i = pi at *
  refine ⟨0,?_⟩
  simp only [qY]
  simp (maxSteps:=2000000) -implicitDefEqProofs [-getElem?_pos,go_sem,eqV,ah]
 ·have hlt:i < n:=by omega
  have iT:(i:Int) < (n:Int):=by omega
  obtain ⟨E2,ex2,h1,h2,h3⟩:=hV.note (hM.up i) (by omega) hb
  refine aj.of (o:=⟨.normal,qY v (p + i + 1) n (i + 1),E2⟩) ?_ (.inl ⟨rfl,n - (i + 1),by omega,i + 1,ex2,by omega,rfl,rfl,h2⟩)
  apply Run.seq (fr':=qY v (p + i) n i ++ [(96,.bool true)]) (H':=E')
  ·generalize p + i = pi at *
   simp only [qY]
   (refine ⟨0,?_⟩;simp (maxSteps:=2000000) -implicitDefEqProofs [-getElem?_pos,go_sem,eqV,ah,iT,hlt])
  apply Run.seq (fr':=qY v (p + i) n i ++ [(96,.bool true)]) (H':=E')
  ·exact Run.cond (d:=true) (by simp [qY,aC,au]) ⟨0,rfl⟩
  exact piece (WS (by omega) (by omega) h1) _ rfl
end
end Go.Proofs.Ytbodincpjijdiaa
namespace Go.Proofs.Ytbodincpjijdiaa
open Go.AM
section
variable {c:Nat} {b:List UInt8} {t:Nat} {H:AM.Heap} {ex:List (Nat × Nat)} {M:Pls}
theorem Uf {m p:Nat} {v:AV} {L:List Pc} {E:AM.Heap} (h:PcV c b t E v L ex M) (hM:zG M p) (hp:p < b.length) (hb:b.length≤1400) (hL:L.length≤1400) :
  ∃ code,((Try.f43.body).bind (aF [1,1,1,1,0,1,0,0,1])) = some code∧aj (Goes fun fr E'=>∃ v' ex',bY [1,3,4,5,6] fr = pW v' (p + max 1 (dO b M p).len)∧PcV c b t E' v' (L ++ [dO b M p]) ex' (qF b M p (max 1 (dO b M p).len))) X (evT X) 43 m code (pW v p ++ [(18,.bool true)]) E:=by
 refine ⟨_,rfl,?_⟩
 refine aj.blk ?_ (by
  rintro o ⟨ho,_⟩
  rw [ho]
  simp)
 apply aj.seq (fr':=jg v p 0 0) (H':=E)
 ·simp only [pW,jg]
  (refine ⟨0,?_⟩;simp (maxSteps:=2000000) -implicitDefEqProofs [-getElem?_pos,go_sem,eqV,ah,ak])
 apply aj.andThen (piece (Uc (m:=m) (v:=v) h.nt (fun y hy=>⟨(hM.2 y hy).1,by have:=(hM.2 y hy).2.1;omega,(hM.2 y hy).2.2⟩) (by omega) (by omega)) _ rfl)
 rintro fr E1 ⟨hfr,r,rfl⟩
 obtain ⟨y,hy⟩:∃ y,b[p]? = some y:=⟨_,List.getElem?_eq_getElem hp⟩
 have hN1:=h.nt.cat r
 obtain ⟨τ1,τ2,_,_,h1⟩:=hN1.bx
 obtain ⟨g,ob,rfl,ho,hw⟩:=h.row
 have ho1:(E ++ r)[2]? = some (some ob):=by rw [List.getElem?_append_left (eY ho)];exact ho
 generalize E ++ r = E1 at *
 apply aj.seq (piece (WM hfr h1 hy (by omega)) _ rfl)
 have hN2:=hN1.cat [some (pcO ⟨0,0,y⟩)]
 have ho2:(E1 ++ [some (pcO ⟨0,0,y⟩)])[2]? = some (some ob):=by rw [List.getElem?_append_left (eY ho1)];exact ho1
 have hq2:(E1 ++ [some (pcO ⟨0,0,y⟩)])[E1.length]? = some (some (pcO ⟨0,0,y⟩)):=by simp
 have hlt1:=hN1.lt
 have hl1:=eY ho1
 generalize E1 ++ [some (pcO ⟨0,0,y⟩)] = E2 at *
 obtain ⟨afw,hc17,afx,Ug,afy⟩:=WO (m:=m) (p:=p) (n:=(jo b M p).1) (d:=(jo b M p).2) (v:=.sl 2 0 L.length g) hq2
 apply aj.seq (fr':=afx) (H':=if 3≤(jo b M p).1 then upd E2 E1.length (some (pcO ⟨(jo b M p).1,(jo b M p).2,0⟩)) else E2)
 ·exact (Option.some.inj hc17) ▸ Ug
 have h3:∃ E3,(if 3≤(jo b M p).1 then upd E2 E1.length (some (pcO ⟨(jo b M p).1,(jo b M p).2,0⟩)) else E2) = E3∧E3[E1.length]? = some (some (pcO (dO b M p)))∧(∀ j,j ≠ E1.length→E3[j]? = E2[j]?):=by
  refine ⟨_,rfl,?_,?_⟩
  ·unfold dO
   by_cases hn:3≤(jo b M p).1
   ·rw [if_pos hn,if_pos hn]
    exact setAt hq2
   ·rw [if_neg hn,if_neg hn,List.getD_eq_getElem?_getD,hy]
    exact hq2
  ·intro j hj
   split
   ·unfold upd
    rw [List.getElem?_set_ne (Ne.symm hj)]
   ·rfl
 obtain ⟨E3,hE3,hq3,hk3⟩:=h3
 rw [hE3]
 clear hE3 Ug
 have hN3:NtV c b t E3 0 4 3 ex M:=hN2.keep (hk3 0 (by omega)) (hk3 4 (by omega)) (hk3 3 (by omega)) fun x hx=>hk3 x.1 (by have:=hlt1.2.2.2 x hx;omega)
 have ho3:E3[2]? = some (some ob):=by rw [hk3 2 (by omega)];exact ho2
 obtain ⟨ob',hw',hA⟩:=Cc (C:=X) (T:=75) (e:=91) (es:=3) (H:=E3) (o:=2) (m:=[pcR (dO b M p)]) (src:=.ro 1 (.pr 3 [pcR (dO b M p)]) 0) (by simp) (by simp) (by omega) (by simp) (by simp) ho3 hw rfl (by simp;omega)
 rw [List.length_map] at hA
 apply aj.seq (piece (WQ afy hq3 hA) _ rfl)
 have hq4:(upd E3 2 (some ob'))[E1.length]? = some (some (pcO (dO b M p))):=zF hq3 (by omega)
 apply aj.seq (piece (WR hq4) _ rfl)
 have hV:PcV c b t (upd E3 2 (some ob')) (.sl 2 0 (L.length + 1) (g + 1)) (L ++ [dO b M p]) ex M:=by
  have hu:∀ j,j ≠ 2→(upd E3 2 (some ob'))[j]? = E3[j]?:=fun j hj=>by unfold upd;rw [List.getElem?_set_ne (Ne.symm hj)]
  refine ⟨hN3.keep (hu 0 (by omega)) (hu 4 (by omega)) (hu 3 (by omega)) fun x hx=>hu x.1 (h.off x hx),⟨g + 1,ob',by simp,setAt ho3,by rw [List.map_append];exact hw'⟩,h.off⟩
 have hfit:=qZ (M:=M) hp
 refine (piece (Ue (m:=m) hV hM hfit hb) _ rfl).mono ?_
 rintro ⟨xx,fr,E'⟩ ⟨he,hfr2,ex',hV'⟩
 simp only at he hfr2 hV'
 subst hfr2
 exact ⟨he,_,ex',by simp [qY,pW,bY,au],hV'⟩
theorem WT:Gi X 94 = true:=by kernel_rfl
theorem Uh:bJ X 91 = .pr 3 []:=by kernel_rfl
theorem Iu {m:Nat} (hb:b.length≤1400):∃ code,Try.f43.body = some code ∧
  aj (jV fun fr E'=>∃ g ob,au fr 2 = .sl 2 0 (lQ b b.length [] 0).length g∧E'[2]? = some (some ob)∧Rw (.pr 3 ((lQ b b.length [] 0).map pcR)) g ob) X (evT X) 43 m code [(0,.ro c (.pb b) 1)] []:=by
 refine ⟨_,rfl,?_⟩
 apply aj.seq (fr':=[(1,.ptr 0 0 0 0)]) (H':=[some (bxN (.ro c (.pb b) 1) 0),some ⟨.pr 3 [],0,none,0,true,false,0⟩])
 ·simp only [bxN]
  (refine ⟨0,?_⟩;simp (maxSteps:=2000000) -implicitDefEqProofs [-getElem?_pos,go_sem,eqV,ah,ak,rowOf,Uh])
 apply aj.seq (fr':=[(1,.ptr 0 0 0 0),(3,.sl 2 0 0 0)]) (H':=[some (bxN (.ro c (.pb b) 1) 0),some ⟨.pr 3 [],0,none,0,true,false,0⟩,some ⟨.pr 3 [],0,none,0,true,false,0⟩])
 ·simp only [bxN]
  (refine ⟨0,?_⟩;simp (maxSteps:=2000000) -implicitDefEqProofs [-getElem?_pos,go_sem,eqV,ah,ak,rowOf,Uh])
 apply aj.seq (fr':=[(1,.ptr 0 0 0 0),(3,.sl 2 0 0 0),(4,.ptr 4 0 0 0)]) (H':=[some (bxN (.ro c (.pb b) 1) 0),some ⟨.pr 3 [],0,none,0,true,false,0⟩,some ⟨.pr 3 [],0,none,0,true,false,0⟩,some (pmO [] 0),some (bxN (.map 3 0) 0)])
 ·simp only [bxN,pmO]
  (refine ⟨0,?_⟩;simp (maxSteps:=2000000) -implicitDefEqProofs [-getElem?_pos,go_sem,eqV,ah,WT,zH,qG])
 have hV:PcV c b 1 [some (bxN (.ro c (.pb b) 1) 0),some ⟨.pr 3 [],0,none,0,true,false,0⟩,some ⟨.pr 3 [],0,none,0,true,false,0⟩,some (pmO [] 0),some (bxN (.map 3 0) 0)] (.sl 2 0 0 0) [] [] [] :=
  ⟨⟨⟨1,0,.inr rfl,.inl rfl,rfl⟩,⟨0,.inl rfl,rfl⟩,⟨0,.inl rfl,rfl⟩,trivial,by simp⟩,⟨0,⟨.pr 3 [],0,none,0,true,false,0⟩,rfl,rfl,⟨rfl,rfl,rfl,rfl,rfl⟩⟩,by simp⟩
 generalize [some (bxN (.ro c (.pb b) 1) 0),some (⟨.pr 3 [],0,none,0,true,false,0⟩:AM.Obj),some ⟨.pr 3 [],0,none,0,true,false,0⟩,some (pmO [] 0),some (bxN (.map 3 0) 0)] = E0 at *
 apply aj.seq (fr':=[(1,.ptr 0 0 0 0),(3,.sl 2 0 0 0),(4,.ptr 4 0 0 0),(5,fnV)]) (H':=E0)
 ·simp only [fnV]
  (refine ⟨0,?_⟩;simp (maxSteps:=2000000) -implicitDefEqProofs [-getElem?_pos,go_sem,eqV,ah,scalars,scalar])
 apply aj.assoc
 apply aj.seq (fr':=pW (.sl 2 0 0 0) 0) (H':=E0)
 ·simp only [pW,fnV]
  (refine ⟨0,?_⟩;simp (maxSteps:=2000000) -implicitDefEqProofs [-getElem?_pos,go_sem,eqV,ah])
 apply aj.andThen (P:=fun fr E'=>∃ v ex M,au fr 3 = v∧PcV c b 1 E' v (lQ b b.length [] 0) ex M)
 ·apply aj.block
  refine aj.kJ (I:=fun q fr E'=>∃ v L ex M p,bY [1,3,4,5,6] fr = pW v p∧PcV c b 1 E' v L ex M∧zG M p∧p≤b.length∧b.length≤p + q∧L.length≤p∧L ++ lQ b q M p = lQ b b.length [] 0) ?_ (k:=b.length) ⟨_,[],[],[],0,by simp [pW,bY,au],hV,⟨by simp,by simp⟩,by omega,by omega,by simp,rfl⟩
  rintro q fr E' ⟨v,L,ex,M,p,hfr,hV,hM,hp,hq,hL,he⟩
  have g1:au fr 1 = .ptr 0 0 0 0:=by simpa [bY,pW,au] using congrArg (fun f=>au f 1) hfr
  have g3:au fr 3 = v:=by simpa [bY,pW,au] using congrArg (fun f=>au f 3) hfr
  have g4:au fr 4 = .ptr 4 0 0 0:=by simpa [bY,pW,au] using congrArg (fun f=>au f 4) hfr
  have g5:au fr 5 = fnV:=by simpa [bY,pW,au] using congrArg (fun f=>au f 5) hfr
  have g6:au fr 6 = .int .i64 (p:Nat):=by simpa [bY,pW,au] using congrArg (fun f=>au f 6) hfr
  obtain ⟨τ1,τ2,_,_,h1⟩:=hV.nt.bx
  simp only [bxN] at h1
  apply aj.assoc
  by_cases hpl:p < b.length
  ·have KN:(p:Int) < (b.length:Int):=by omega
   obtain ⟨q,rfl⟩:∃ q',q = q' + 1:=⟨q - 1,by omega⟩
   apply aj.seq (fr':=pW v p ++ [(18,.bool true)]) (H':=E')
   ·simp only [pW]
    (refine ⟨0,?_⟩;simp (maxSteps:=2000000) -implicitDefEqProofs [-getElem?_pos,go_sem,eqV,ah,g1,g3,g4,g5,g6,h1,KN,hpl])
   apply aj.seq (fr':=pW v p ++ [(18,.bool true)]) (H':=E')
   ·exact Run.cond (d:=true) (by simp [pW,aC,au]) ⟨0,rfl⟩
   refine (piece (Uf (m:=m) hV hM hpl hb (by omega)) _ rfl).mono ?_
   rintro ⟨xx,fr2,E2⟩ ⟨hx,v',ex',hfr2,hV2⟩
   simp only at hx hfr2 hV2
   subst hx
   have hfit:=qZ (M:=M) hpl
   refine .inl ⟨rfl,q,by omega,v',_,ex',_,_,hfr2,hV2,hM.up _,hfit,by omega,by simp;omega,?_⟩
   rw [lQ,if_pos hpl] at he
   rw [← he]
   simp
  ·have KN:¬ (p:Int) < (b.length:Int):=by omega
   refine aj.of (o:=⟨.exit 0,pW v p ++ [(18,.bool false)],E'⟩) ?_ (.inr ⟨by simp,rfl,v,ex,M,by simp [pW,au],?_⟩)
   ·refine Run.seq (fr':=pW v p ++ [(18,.bool false)]) (H':=E') ?_ ?_
    ·simp only [pW]
     (refine ⟨0,?_⟩;simp (maxSteps:=2000000) -implicitDefEqProofs [-getElem?_pos,go_sem,eqV,ah,g1,g3,g4,g5,g6,h1,KN,hpl])
    ·refine Run.bH ?_ (by simp)
     exact Run.cond (d:=false) (by simp [pW,aC,au]) ⟨0,rfl⟩
   ·have hq0:lQ b q M p = []:=by
     cases q with
     | zero=>rfl
     | succ q=>rw [lQ,if_neg hpl]
    rw [hq0,List.append_nil] at he
    rw [← he]
    exact hV
 rintro fr E' ⟨v,ex,M,hv,hV⟩
 obtain ⟨g,ob,rfl,ho,hw⟩:=hV.row
 generalize lQ b b.length [] 0 = L at *
 refine aj.of (o:=⟨.ret,[(2,.sl 2 0 L.length g)],E'⟩) ?_ ⟨rfl,g,ob,rfl,ho,hw⟩
 generalize L.length = N at *
 refine ⟨0,?_⟩
 simp (maxSteps:=2000000) -implicitDefEqProofs [-getElem?_pos,go_sem,eqV,ah,hv,ak]
theorem Iw (L:List Pc):aJ (L.map pcR) = []∧bQ (L.map pcR) = []:=by
 induction L with
 | nil=>exact ⟨rfl,rfl⟩
 | cons x L ih=>exact ⟨by simp [aJ,ih.1,pcR,ids],by simp [bQ,ih.2,pcR,tags]⟩
theorem OJ {H:AM.Heap} {a:AV} (ha:gq H a = some (.pb b)) (hb:b.length≤1400):∃ ob,Rw (.pr 3 ((lQ b b.length [] 0).map pcR)) 0 ob∧evT X 43 [a] H = some (.sl H.length 0 (lQ b b.length [] 0).length 0,H ++ [some ob]):=by
 obtain ⟨c,x,hx⟩:=dS (C:=X) (f:=43) (i:=0) rfl ha (bU 1)
 obtain ⟨code,hc,⟨out,⟨ho,g,ob,h1,h2,hw⟩,hrun⟩⟩:=Iu (m:=0) (c:=c) hb
 obtain ⟨f1,f2⟩:=Iw (lQ b b.length [] 0)
 obtain ⟨ob',q1,q2⟩:=Ev1.newR (C:=X) (H:=H) (bn X) (n:=(lQ b b.length [] 0).length) (es:=3) (l:=(lQ b b.length [] 0).map pcR) (rest:=[]) Try.func43 hc hx rfl (by simp [bW]) rfl rfl rfl f1 f2 (by
  rw [YL]
  refine ⟨out,⟨ho,2,g,ob,?_,h2,hw⟩,hrun⟩
  show aQ X out.fr out.H [.tmp 2] = _
  simp [aQ,h1])
 exact ⟨ob',q1,dA q2⟩
end
end Go.Proofs.Ytbodincpjijdiaa
namespace Go.Proofs.Ytbodincpjijdiaa
open Go.AM
structure Px where
 len:Int
 dist:Int
 byte:UInt8
def pxR (x:Px):AV:=.pc [.int .i64 x.len,.int .i64 x.dist,.int .u8 (x.byte.toNat:Nat)]
def pxO (x:Px):AM.Obj:=⟨pxR x,0,some 3,1,false,true,0⟩
def jy (x:Px):Bool:=if x.len = 0 then decide (x.dist = 0) else decide (3≤x.len) && (decide (x.len≤258) && (decide (1≤x.dist) && (decide (x.dist≤32768) && decide (x.byte = 0))))
def iE (d:Nat):Nat→List UInt8→List UInt8
 | 0,o=>o
 | n + 1,o=>iE d n (o ++ [o.getD (o.length - d) 0])
def iy:List Px→List UInt8→List UInt8 × Int
 | [],o=>(o,0)
 | x :: r,o=>if jy x = false then ([],2) else if x.len = 0 then iy r (o ++ [x.byte]) else if (o.length:Int) < x.dist then ([],5) else iy r (iE x.dist.toNat x.len.toNat o)
theorem Qu (x:Px):∃ code,Try.f72.body = some code∧aj (jV fun fr H=>au fr 2 = .bool (jy x)) X (evT X) 72 0 code [(0,.agg (pxR x))] []:=by
 refine ⟨_,rfl,?_⟩
 simp only [pxR]
 apply aj.seq (fr':=[(1,.ptr 0 0 0 0)]) (H':=[some (⟨.pc [.int .i64 x.len,.int .i64 x.dist,.int .u8 (x.byte.toNat:Nat)],0,some 3,1,false,true,0⟩:AM.Obj)])
 ·(refine ⟨0,?_⟩;simp (maxSteps:=2000000) -implicitDefEqProofs [-getElem?_pos,go_sem,eqV,ah])
 unfold jy
 by_cases h0:x.len = 0
 ·rw [if_pos h0,h0]
  refine aj.of (o:=⟨.ret,[(2,.bool (decide (x.dist = 0)))],[some (⟨.pc [.int .i64 0,.int .i64 x.dist,.int .u8 (x.byte.toNat:Nat)],0,some 3,1,false,true,0⟩:AM.Obj)]⟩) ?_ ⟨rfl,rfl⟩
  refine ⟨0,?_⟩
  by_cases h1:x.dist = 0
  ·rw [decide_eq_true h1,h1]
   simp (maxSteps:=2000000) -implicitDefEqProofs [-getElem?_pos,go_sem,eqV,ah]
  ·have h1b:(x.dist == 0) = false:=by simpa using h1
   rw [decide_eq_false h1]
   simp (maxSteps:=2000000) -implicitDefEqProofs [-getElem?_pos,go_sem,eqV,ah,h1,h1b]
 ·rw [if_neg h0]
  have h0b:(x.len == 0) = false:=by simpa using h0
  refine aj.of (o:=⟨.ret,[(2,.bool (decide (3≤x.len) && (decide (x.len≤258) && (decide (1≤x.dist) && (decide (x.dist≤32768) && decide (x.byte = 0))))))],[some (⟨.pc [.int .i64 x.len,.int .i64 x.dist,.int .u8 (x.byte.toNat:Nat)],0,some 3,1,false,true,0⟩:AM.Obj)]⟩) ?_ ⟨rfl,rfl⟩
  refine ⟨0,?_⟩
  by_cases h1:3≤x.len
  ·rw [decide_eq_true h1]
   by_cases h2:x.len≤258
   ·rw [decide_eq_true h2]
    by_cases h3:1≤x.dist
    ·rw [decide_eq_true h3]
     by_cases h4:x.dist≤32768
     ·rw [decide_eq_true h4]
      by_cases h5:x.byte = 0
      ·rw [decide_eq_true h5,h5]
       simp (maxSteps:=2000000) -implicitDefEqProofs [-getElem?_pos,go_sem,eqV,ah,h0,h0b,h1,h2,h3,h4]
      ·have h5N:¬ x.byte.toNat = 0:=fun h=>h5 (UInt8.toNat_inj.1 h)
       have h5b:((x.byte.toNat:Int) == 0) = false:=by simpa using h5N
       have h5I:¬ (x.byte.toNat:Int) = 0:=by omega
       rw [decide_eq_false h5]
       simp (maxSteps:=2000000) -implicitDefEqProofs [-getElem?_pos,go_sem,eqV,ah,h0,h0b,h1,h2,h3,h4,h5N,h5b,h5I]
     ·rw [decide_eq_false h4]
      simp (maxSteps:=2000000) -implicitDefEqProofs [-getElem?_pos,go_sem,eqV,ah,h0,h0b,h1,h2,h3,h4]
    ·rw [decide_eq_false h3]
     simp (maxSteps:=2000000) -implicitDefEqProofs [-getElem?_pos,go_sem,eqV,ah,h0,h0b,h1,h2,h3]
   ·rw [decide_eq_false h2]
    simp (maxSteps:=2000000) -implicitDefEqProofs [-getElem?_pos,go_sem,eqV,ah,h0,h0b,h1,h2]
  ·rw [decide_eq_false h1]
   simp (maxSteps:=2000000) -implicitDefEqProofs [-getElem?_pos,go_sem,eqV,ah,h0,h0b,h1]
theorem WU (H:AM.Heap) (x:Px):evT X 72 [.agg (pxR x)] H = some (.bool (jy x),H):=by
 obtain ⟨code,hc,⟨out,⟨ho,h2⟩,hr⟩⟩:=Qu x
 have hl:aH X 72 H 0 [.agg (pxR x)] = some ([.agg (pxR x)],[⟨[],[]⟩]):=by
  have hrw:X.rw 72 0 = false:=rfl
  simp [aH,hrw,eU,iO,dY,pxR,tags]
 refine dA (Ev1.nV (l:=[.bool (jy x)]) (bn X) Try.func72 hc hl rfl (by simp [bW]) rfl rfl rfl ?_)
 rw [YM]
 refine ⟨out,⟨ho,?_⟩,hr⟩
 show some [au out.fr 2] = _
 rw [h2]
end Go.Proofs.Ytbodincpjijdiaa
namespace Go.Proofs.Ytbodincpjijdiaa
open Go.AM
def mX (v:AV) (c:Nat) (l:List Px) (i:Nat):AM.Frame:=[(4,v),(7,.ro c (.pr 3 (l.map pxR)) 1),(8,.int .i64 (l.length:Nat)),(9,.int .i64 (i:Nat))]
def kF (v:AV) (q c:Nat) (l:List Px) (i:Nat):AM.Frame:=[(4,v),(6,.ptr q 0 0 0),(7,.ro c (.pr 3 (l.map pxR)) 1),(8,.int .i64 (l.length:Nat)),(9,.int .i64 (i:Nat))]
theorem TG (l:List AV):mG X 91 l = some (.pc l):=Ud l
theorem qX (d:Nat):∀ (n:Nat) (o:List UInt8),(iE d n o).length = o.length + n
 | 0,o=>rfl
 | n + 1,o=>by rw [iE,qX d n];simp;omega
section
variable {c:Nat} {l:List Px}
theorem YN {m i:Nat} {x:Px} {v:AV} {E:AM.Heap} (hx:l[i]? = some x) (hl:l.length≤100000):∃ code,((Try.f52.body).bind (aF [1,1,0,1,0,0,1,1,0,0,0])) = some code∧Run X (evT X) 52 m code (mX v c l i ++ [(10,.bool true)]) E ⟨.normal,kF v E.length c l i,E ++ [some (pxO x)]⟩:=by
 refine ⟨_,rfl,?_⟩
 have hx':(l.map pxR)[i]? = some (pxR x):=by rw [List.getElem?_map,hx];rfl
 have hi:=eY hx
 have hiI:(i:Int) < (l.length:Int):=by omega
 have hll:(l.map pxR).length = l.length:=by simp
 simp only [mX,kF,pxO,pxR] at hx' ⊢
 generalize l.map pxR = R at *
 generalize l.length = N at *
 (refine ⟨0,?_⟩;simp (maxSteps:=2000000) -implicitDefEqProofs [-getElem?_pos,go_sem,eqV,ah,hx',hi,hiI,hll,TG,kE,retag,FY,Bl,splice,jC,scalars,scalar])
theorem YO {m i q:Nat} {x:Px} {v:AV} {E:AM.Heap} (hq:E[q]? = some (some (pxO x))):∃ code,((Try.f52.body).bind (aF [1,1,0,1,0,0,1,1,0,0,1,0,0])) = some code∧Run X (evT X) 52 m code (kF v q c l i) E ⟨.normal,kF v q c l i ++ [(15,.bool (!jy x))],E⟩:=by
 refine ⟨_,rfl,?_⟩
 have hM:=WU E x
 generalize jy x = d at *
 simp only [kF,pxO,pxR] at hq hM ⊢
 generalize l.map pxR = R at *
 generalize l.length = N at *
 cases d <;> (refine ⟨0,?_⟩;simp (maxSteps:=2000000) -implicitDefEqProofs [-getElem?_pos,go_sem,eqV,ah,hq,hM,TG,kE,retag])
theorem oP:bJ X 5 = .pb []:=by kernel_rfl
theorem YP {m i q N g:Nat} {x:Px} {v:AV} {tl:AM.Frame} {E E':AM.Heap} (hq:E[q]? = some (some (pxO x))) (hA:bD X E 22 v (.ro 1 (.pb [x.byte]) 0) = some (.sl 1 0 N g,E')):∃ code,((Try.f52.body).bind (aF [1,1,0,1,0,0,1,1,0,0,1,1,0,1,0,0])) = some code∧Run X (evT X) 52 m code (kF v q c l i ++ tl) E ⟨.normal,mX (.sl 1 0 N g) c l i,E'⟩:=by
 refine ⟨_,rfl,?_⟩
 have hbs:=bsW E x.byte
 simp only [kF,mX,pxO,pxR] at hq ⊢
 generalize l.map pxR = R at *
 generalize l.length = N at *
 (refine ⟨0,?_⟩;simp (maxSteps:=2000000) -implicitDefEqProofs [-getElem?_pos,go_sem,eqV,ah,hq,hA,hbs,ak])
theorem YQ {m i q g:Nat} {x:Px} {o:List UInt8} {ob:AM.Obj} {tl:AM.Frame} {E:AM.Heap} (hq:E[q]? = some (some (pxO x))) (ho:E[1]? = some (some ob)) (hw:Rw (.pb o) g ob):∃ code,((Try.f52.body).bind (aF [1,1,0,1,0,0,1,1,0,0,1,1,1,0,0])) = some code∧Run X (evT X) 52 m code (kF (.sl 1 0 o.length g) q c l i ++ tl) E ⟨.normal,kF (.sl 1 0 o.length g) q c l i ++ [(28,.bool (decide ((o.length:Int) < x.dist)))],E⟩:=by
 refine ⟨_,rfl,?_⟩
 have hg:=hw.g
 simp only [kF,pxO,pxR] at hq ⊢
 generalize l.map pxR = R at *
 generalize l.length = N at *
 generalize o.length = K at *
 by_cases h:(K:Int) < x.dist
 ·rw [decide_eq_true h]
  (refine ⟨0,?_⟩;simp (maxSteps:=2000000) -implicitDefEqProofs [-getElem?_pos,go_sem,eqV,ah,hq,ho,hg,h])
 ·rw [decide_eq_false h]
  (refine ⟨0,?_⟩;simp (maxSteps:=2000000) -implicitDefEqProofs [-getElem?_pos,go_sem,eqV,ah,hq,ho,hg,h])
def uo (v:AV) (q c:Nat) (l:List Px) (i n j:Nat):AM.Frame:=[(4,v),(6,.ptr q 0 0 0),(7,.ro c (.pr 3 (l.map pxR)) 1),(8,.int .i64 (l.length:Nat)),(9,.int .i64 (i:Nat)),(30,.int .i64 (n:Nat)),(31,.int .i64 (j:Nat))]
theorem WV {m i q n j g d:Nat} {x:Px} {o:List UInt8} {ob:AM.Obj} {tl:AM.Frame} {E:AM.Heap} (hq:E[q]? = some (some (pxO x))) (hd:x.dist = (d:Nat)) (hd1:1≤d) (hd2:d≤o.length) (ho:E[1]? = some (some ob)) (hw:Rw (.pb o) g ob) (hol:o.length≤1000000) :
  ∃ ob',Rw (.pb (o ++ [o.getD (o.length - d) 0])) (g + 1) ob'∧∃ code,((Try.f52.body).bind (aF [1,1,0,1,0,0,1,1,0,0,1,1,1,1,1,0,0,1,1,0,0])) = some code∧Run X (evT X) 52 m code (uo (.sl 1 0 o.length g) q c l i n j ++ tl) E ⟨.normal,uo (.sl 1 0 (o.length + 1) (g + 1)) q c l i n j,upd E 1 (some ob')⟩:=by
 have hy:o[o.length - d]? = some (o.getD (o.length - d) 0):=by
  rw [List.getD_eq_getElem?_getD,List.getElem?_eq_getElem (by omega)];rfl
 generalize o.getD (o.length - d) 0 = y at *
 obtain ⟨ob',w1,w2⟩:=mY (C:=X) (T:=22) (e:=5) (H:=E) (o:=1) (m:=[y]) (src:=.ro 1 (.pb [y]) 0) kK rV kL bytes5 qC ho hw (.inl (by simp [gU,jF,kM])) (by simp;omega)
 refine ⟨ob',w1,_,rfl,?_⟩
 have hbs:=bsW E y
 have q1:=hw.p;have q2:=hw.g;have q4:=hw.ids;have q5:=hw.tg
 have w3:IntKind.i64.wrap ((o.length:Int) - (d:Int)) = ((o.length - d:Nat):Int):=by rw [wrap_i64 (by omega) (by omega)];omega
 have hlt:o.length - d < o.length:=by omega
 have iT:((o.length - d:Nat):Int) < (o.length:Int):=by omega
 simp only [List.length_singleton] at w2
 simp only [uo,pxO,pxR,hd] at hq ⊢
 generalize l.map pxR = R at *
 generalize l.length = N at *
 generalize o.length - d = kd at *
 generalize hK:o.length = K at *
 generalize K + 1 = K1 at *
 (refine ⟨0,?_⟩;simp (maxSteps:=2000000) -implicitDefEqProofs [-getElem?_pos,go_sem,eqV,ah,hq,ho,q1,q2,q4,q5,w3,hy,hlt,iT,hbs,w2,hK,ak])
end
end Go.Proofs.Ytbodincpjijdiaa
namespace Go.Proofs.Ytbodincpjijdiaa
open Go.AM
section
variable {c:Nat} {l:List Px}
theorem Ui {m i q n g d:Nat} {x:Px} {o:List UInt8} {ob:AM.Obj} {E:AM.Heap} (hq:E[q]? = some (some (pxO x))) (hq1:q ≠ 1) (hd:x.dist = (d:Nat)) (hd1:1≤d) (hd2:d≤o.length) (ho:E[1]? = some (some ob)) (hw:Rw (.pb o) g ob) (hol:o.length + n≤1000000) :
  ∃ code,((Try.f52.body).bind (aF [1,1,0,1,0,0,1,1,0,0,1,1,1,1,1])) = some code∧aj (Goes fun fr E'=>∃ g' ob',bY [4,7,8,9] fr = mX (.sl 1 0 (iE d n o).length g') c l i∧E'[1]? = some (some ob')∧Rw (.pb (iE d n o)) g' ob') X (evT X) 52 m code (uo (.sl 1 0 o.length g) q c l i n 0) E:=by
 refine ⟨_,rfl,?_⟩
 apply aj.block
 refine aj.kJ (I:=fun k fr E'=>∃ j o' g' ob',j≤n∧k = n - j∧fr = uo (.sl 1 0 o'.length g') q c l i n j∧E'[q]? = some (some (pxO x))∧E'[1]? = some (some ob')∧Rw (.pb o') g' ob'∧o'.length = o.length + j∧iE d (n - j) o' = iE d n o) ?_ (k:=n) ⟨0,o,g,ob,by omega,rfl,rfl,hq,ho,hw,rfl,rfl⟩
 rintro k fr E' ⟨j,o',g',ob',hj,rfl,rfl,hq',ho',hw',hlen,hc⟩
 by_cases hjn:j = n
 ·subst hjn
  rw [Nat.sub_self] at hc
  refine aj.of (o:=⟨.exit 2,uo (.sl 1 0 o'.length g') q c l i j j ++ [(32,.bool false)],E'⟩) ?_ (.inr ⟨by simp,rfl,g',ob',by rw [← hc];simp [uo,mX,bY,au,iE],ho',by rw [← hc];exact hw'⟩)
  refine ⟨0,?_⟩
  simp only [uo]
  generalize l.map pxR = R at *
  generalize l.length = N at *
  generalize o'.length = K at *
  simp (maxSteps:=2000000) -implicitDefEqProofs [-getElem?_pos,go_sem,eqV,ah]
 ·have hlt:j < n:=by omega
  have iT:(j:Int) < (n:Int):=by omega
  obtain ⟨ob2,w1,hr⟩:=WV (m:=m) (c:=c) (l:=l) (i:=i) (n:=n) (j:=j) (tl:=[(32,.bool true)]) hq' hd hd1 (by omega) ho' hw' (by omega)
  have hn1:n - j = (n - (j + 1)) + 1:=by omega
  rw [hn1,iE] at hc
  refine aj.of (o:=⟨.normal,uo (.sl 1 0 (o'.length + 1) (g' + 1)) q c l i n (j + 1),upd E' 1 (some ob2)⟩) ?_ (.inl ⟨rfl,n - (j + 1),by omega,j + 1,o' ++ [o'.getD (o'.length - d) 0],g' + 1,ob2,by omega,rfl,by simp,zF hq' (Ne.symm hq1),setAt ho',w1,by simp;omega,hc⟩)
  apply Run.seq (fr':=uo (.sl 1 0 o'.length g') q c l i n j ++ [(32,.bool true)]) (H':=E')
  ·simp only [uo]
   generalize l.map pxR = R at *
   generalize l.length = N at *
   generalize o'.length = K at *
   (refine ⟨0,?_⟩;simp (maxSteps:=2000000) -implicitDefEqProofs [-getElem?_pos,go_sem,eqV,ah,iT,hlt])
  apply Run.seq (fr':=uo (.sl 1 0 o'.length g') q c l i n j ++ [(32,.bool true)]) (H':=E')
  ·exact Run.cond (d:=true) (by simp [uo,aC,au]) ⟨0,rfl⟩
  apply Run.seq (fr':=uo (.sl 1 0 (o'.length + 1) (g' + 1)) q c l i n j) (H':=upd E' 1 (some ob2))
  ·apply Run.block
   ·exact piece hr _ rfl
   ·simp
  ·have w4:IntKind.i64.wrap ((j:Int) + 1) = ((j + 1:Nat):Int):=by rw [wrap_i64 (by omega) (by omega)];omega
   generalize j + 1 = j1 at *
   simp only [uo]
   generalize l.map pxR = R at *
   generalize l.length = N at *
   generalize o'.length + 1 = K at *
   (refine ⟨0,?_⟩;simp (maxSteps:=2000000) -implicitDefEqProofs [-getElem?_pos,go_sem,eqV,ah,w4])
def exX (l:List Px) (fr:AM.Frame) (E:AM.Heap):Prop:=∃ o e a g ob,iy l [] = (o,e)∧au fr 2 = .sl a 0 o.length g∧au fr 3 = .int .i64 e∧E[a]? = some (some ob)∧Rw (.pb o) g ob
theorem yw {x:Px} (h:jy x = true) (h0:¬ x.len = 0):∃ n d:Nat,x.len = n∧x.dist = d∧3≤n∧n≤258∧1≤d:=by
 unfold jy at h
 rw [if_neg h0] at h
 simp at h
 exact ⟨x.len.toNat,x.dist.toNat,by omega,by omega,by omega,by omega,by omega⟩
theorem Uj {m i g:Nat} {x:Px} {o:List UInt8} {ob:AM.Obj} {E:AM.Heap} (hx:l[i]? = some x) (hl:l.length≤2000) (ho:E[1]? = some (some ob)) (hw:Rw (.pb o) g ob) (hol:o.length≤258 * i) (he:iy (l.drop i) o = iy l []) :
  ∃ code,((Try.f52.body).bind (aF [1,1,0,1,0,0,1,1])) = some code∧aj (fun out=>(out.ex = .normal∧∃ o' g' ob',out.fr = mX (.sl 1 0 o'.length g') c l (i + 1)∧out.H[1]? = some (some ob')∧Rw (.pb o') g' ob'∧o'.length≤258 * (i + 1)∧iy (l.drop (i + 1)) o' = iy l [])∨(out.ex = .ret∧exX l out.fr out.H)) X (evT X) 52 m code (mX (.sl 1 0 o.length g) c l i ++ [(10,.bool true)]) E:=by
 refine ⟨_,rfl,?_⟩
 have hi:=eY hx
 have hdrop:l.drop i = x :: l.drop (i + 1):=by
  rw [List.drop_eq_getElem_cons hi]
  rw [List.getElem?_eq_getElem hi] at hx
  rw [Option.some.inj hx]
 rw [hdrop,iy] at he
 have hg:=hw.g
 have hE1:=eY ho
 have hq:(E ++ [some (pxO x)])[E.length]? = some (some (pxO x)):=by simp
 have ho2:(E ++ [some (pxO x)])[1]? = some (some ob):=by rw [List.getElem?_append_left hE1];exact ho
 have hr4:=YN (m:=m) (c:=c) (v:=.sl 1 0 o.length g) (E:=E) hx (by omega)
 have hq1:E.length ≠ 1:=by omega
 generalize E ++ [some (pxO x)] = E0 at *
 generalize E.length = q at *
 have hr5:=YO (m:=m) (c:=c) (l:=l) (i:=i) (v:=.sl 1 0 o.length g) hq
 have w1:IntKind.i64.wrap ((i:Int) + 1) = ((i + 1:Nat):Int):=by rw [wrap_i64 (by omega) (by omega)];omega
 by_cases hm:jy x = false
 ·rw [if_pos hm] at he
  rw [hm] at hr5
  refine aj.of (o:=⟨.ret,[(2,.sl E0.length 0 0 0),(3,.int .i64 2)],E0 ++ [some (⟨.pb [],0,none,0,true,false,0⟩:AM.Obj)]⟩) ?_ (.inr ⟨rfl,[],2,E0.length,0,_,he.symm,rfl,rfl,List.getElem?_concat_length,⟨rfl,rfl,rfl,rfl,rfl⟩⟩)
  refine Run.bH ?_ (by simp)
  refine Run.block ?_ (by simp)
  apply Run.seq (piece hr4 _ rfl)
  refine Run.bH ?_ (by simp)
  apply Run.seq (piece hr5 _ rfl)
  refine Run.cond (d:=true) (by simp [kF,aC,au]) ?_
  apply Run.seq (fr':=[(2,.sl E0.length 0 0 0),(3,.int .i64 2)]) (H':=E0 ++ [some (⟨.pb [],0,none,0,true,false,0⟩:AM.Obj)])
  ·simp only [kF]
   generalize l.map pxR = R at *
   generalize l.length = N at *
   generalize o.length = K at *
   (refine ⟨0,?_⟩;simp (maxSteps:=2000000) -implicitDefEqProofs [-getElem?_pos,go_sem,eqV,ah,ak,rowOf,oP])
  ·exact ⟨0,rfl⟩
 have hmt:jy x = true:=by simpa using hm
 rw [if_neg hm] at he
 rw [hmt] at hr5
 by_cases h0:x.len = 0
 ·rw [if_pos h0] at he
  obtain ⟨ob',k1,k2⟩:=mY (C:=X) (T:=22) (e:=5) (H:=E0) (o:=1) (m:=[x.byte]) (src:=.ro 1 (.pb [x.byte]) 0) kK rV kL bytes5 qC ho2 hw (.inl (by simp [gU,jF,kM])) (by simp;omega)
  simp only [List.length_singleton] at k2
  have hr8:=YP (m:=m) (c:=c) (l:=l) (i:=i) (tl:=[(18,.bool true)]) hq k2
  refine aj.of (o:=⟨.normal,mX (.sl 1 0 (o.length + 1) (g + 1)) c l (i + 1),upd E0 1 (some ob')⟩) ?_ (.inl ⟨rfl,o ++ [x.byte],g + 1,ob',by simp,setAt ho2,k1,by simp;omega,he⟩)
  apply Run.seq (fr':=mX (.sl 1 0 (o.length + 1) (g + 1)) c l i) (H':=upd E0 1 (some ob'))
  ·refine Run.eF ?_
   apply Run.seq (piece hr4 _ rfl)
   apply Run.seq (fr':=kF (.sl 1 0 o.length g) q c l i ++ [(15,.bool false)]) (H':=E0)
   ·apply Run.seq (piece hr5 _ rfl)
    exact Run.cond (d:=false) (by simp [kF,aC,au]) ⟨0,rfl⟩
   refine Run.bH ?_ (by simp)
   apply Run.seq (fr':=kF (.sl 1 0 o.length g) q c l i ++ [(18,.bool true)]) (H':=E0)
   ·simp only [kF,pxO,pxR,h0] at hq ⊢
    generalize l.map pxR = R at *
    generalize l.length = N at *
    generalize o.length = K at *
    (refine ⟨0,?_⟩;simp (maxSteps:=2000000) -implicitDefEqProofs [-getElem?_pos,go_sem,eqV,ah,hq])
   refine Run.cond (d:=true) (by simp [kF,aC,au]) ?_
   exact Run.seq (piece hr8 _ rfl) ⟨0,rfl⟩
  ·simp only [mX]
   generalize l.map pxR = R at *
   generalize l.length = N at *
   generalize o.length + 1 = K at *
   generalize i + 1 = i1 at *
   (refine ⟨0,?_⟩;simp (maxSteps:=2000000) -implicitDefEqProofs [-getElem?_pos,go_sem,eqV,ah,w1])
 rw [if_neg h0] at he
 obtain ⟨n,d,hn,hd,n3,n258,d1⟩:=yw hmt h0
 have hr9:=YQ (m:=m) (c:=c) (l:=l) (i:=i) (x:=x) (tl:=[(18,.bool false)]) hq ho2 hw
 have hr7:∃ code,((Try.f52.body).bind (aF [1,1,0,1,0,0,1,1,0,0,1,1,0,0])) = some code∧Run X (evT X) 52 m code (kF (.sl 1 0 o.length g) q c l i ++ [(15,.bool false)]) E0 ⟨.normal,kF (.sl 1 0 o.length g) q c l i ++ [(18,.bool false)],E0⟩:=by
  refine ⟨_,rfl,?_⟩
  have h0b:(x.len == 0) = false:=by simpa using h0
  simp only [kF,pxO,pxR] at hq ⊢
  generalize l.map pxR = R at *
  generalize l.length = N at *
  generalize o.length = K at *
  (refine ⟨0,?_⟩;simp (maxSteps:=2000000) -implicitDefEqProofs [-getElem?_pos,go_sem,eqV,ah,hq,h0,h0b])
 by_cases hbig:(o.length:Int) < x.dist
 ·rw [if_pos hbig] at he
  rw [decide_eq_true hbig] at hr9
  refine aj.of (o:=⟨.ret,[(2,.sl E0.length 0 0 0),(3,.int .i64 5)],E0 ++ [some (⟨.pb [],0,none,0,true,false,0⟩:AM.Obj)]⟩) ?_ (.inr ⟨rfl,[],5,E0.length,0,_,he.symm,rfl,rfl,List.getElem?_concat_length,⟨rfl,rfl,rfl,rfl,rfl⟩⟩)
  refine Run.bH ?_ (by simp)
  refine Run.block ?_ (by simp)
  apply Run.seq (piece hr4 _ rfl)
  apply Run.seq (fr':=kF (.sl 1 0 o.length g) q c l i ++ [(15,.bool false)]) (H':=E0)
  ·apply Run.seq (piece hr5 _ rfl)
   exact Run.cond (d:=false) (by simp [kF,aC,au]) ⟨0,rfl⟩
  apply Run.seq (fr':=kF (.sl 1 0 o.length g) q c l i ++ [(18,.bool false)]) (H':=E0)
  ·apply Run.seq (piece hr7 _ rfl)
   exact Run.cond (d:=false) (by simp [kF,aC,au]) ⟨0,rfl⟩
  refine Run.bH ?_ (by simp)
  apply Run.seq (piece hr9 _ rfl)
  refine Run.cond (d:=true) (by simp [kF,aC,au]) ?_
  apply Run.seq (fr':=[(2,.sl E0.length 0 0 0),(3,.int .i64 5)]) (H':=E0 ++ [some (⟨.pb [],0,none,0,true,false,0⟩:AM.Obj)])
  ·simp only [kF]
   generalize l.map pxR = R at *
   generalize l.length = N at *
   generalize o.length = K at *
   (refine ⟨0,?_⟩;simp (maxSteps:=2000000) -implicitDefEqProofs [-getElem?_pos,go_sem,eqV,ah,ak,rowOf,oP])
  ·exact ⟨0,rfl⟩
 rw [if_neg hbig,hn,hd] at he
 simp only [Int.toNat_natCast] at he
 rw [decide_eq_false hbig] at hr9
 have hcl:=qX d n o
 obtain ⟨Qv,hcB,⟨⟨ex,fr,E2⟩,⟨he2,g',ob',hfr,ho',hw'⟩,hrB⟩⟩:=Ui (m:=m) (c:=c) (l:=l) (i:=i) (n:=n) hq hq1 hd d1 (by omega) ho2 hw (by omega)
 simp only at he2 hfr ho'
 subst he2
 refine aj.of (o:=⟨.normal,mX (.sl 1 0 (iE d n o).length g') c l (i + 1),E2⟩) ?_ (.inl ⟨rfl,iE d n o,g',ob',rfl,ho',hw',by rw [hcl];omega,he⟩)
 apply Run.seq (fr':=fr) (H':=E2)
 ·refine Run.block ?_ (by simp)
  apply Run.seq (piece hr4 _ rfl)
  apply Run.seq (fr':=kF (.sl 1 0 o.length g) q c l i ++ [(15,.bool false)]) (H':=E0)
  ·apply Run.seq (piece hr5 _ rfl)
   exact Run.cond (d:=false) (by simp [kF,aC,au]) ⟨0,rfl⟩
  apply Run.seq (fr':=kF (.sl 1 0 o.length g) q c l i ++ [(18,.bool false)]) (H':=E0)
  ·apply Run.seq (piece hr7 _ rfl)
   exact Run.cond (d:=false) (by simp [kF,aC,au]) ⟨0,rfl⟩
  apply Run.seq (fr':=kF (.sl 1 0 o.length g) q c l i ++ [(28,.bool false)]) (H':=E0)
  ·apply Run.seq (piece hr9 _ rfl)
   exact Run.cond (d:=false) (by simp [kF,aC,au]) ⟨0,rfl⟩
  apply Run.seq (fr':=uo (.sl 1 0 o.length g) q c l i n 0) (H':=E0)
  ·simp only [kF,uo,pxO,pxR,hn] at hq ⊢
   generalize l.map pxR = R at *
   generalize l.length = N at *
   generalize o.length = K at *
   (refine ⟨0,?_⟩;simp (maxSteps:=2000000) -implicitDefEqProofs [-getElem?_pos,go_sem,eqV,ah,hq])
  ·exact (Option.some.inj hcB) ▸ hrB
 ·have g4:au fr 4 = .sl 1 0 (iE d n o).length g':=by simpa [bY,mX,au] using congrArg (fun f=>au f 4) hfr
  have g7:au fr 7 = .ro c (.pr 3 (l.map pxR)) 1:=by simpa [bY,mX,au] using congrArg (fun f=>au f 7) hfr
  have g8:au fr 8 = .int .i64 (l.length:Nat):=by simpa [bY,mX,au] using congrArg (fun f=>au f 8) hfr
  have g9:au fr 9 = .int .i64 (i:Nat):=by simpa [bY,mX,au] using congrArg (fun f=>au f 9) hfr
  simp only [mX]
  generalize l.map pxR = R at *
  generalize l.length = N at *
  generalize (iE d n o).length = K at *
  generalize i + 1 = i1 at *
  (refine ⟨0,?_⟩;simp (maxSteps:=2000000) -implicitDefEqProofs [-getElem?_pos,go_sem,eqV,ah,g4,g7,g8,g9,w1])
end
end Go.Proofs.Ytbodincpjijdiaa
