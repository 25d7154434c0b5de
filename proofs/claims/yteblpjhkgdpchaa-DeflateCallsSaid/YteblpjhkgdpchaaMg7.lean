/- QA to QS: texts of this claim, one behind the other; what each shows stands at its head. -/
import Derived.Test.YteblpjhkgdpchaaAm4
import Derived.Test.YteblpjhkgdpchaaMg6
set_option linter.unusedSimpArgs false
set_option linter.unusedVariables false
set_option maxRecDepth 100000
set_option maxHeartbeats 8000000
namespace Go.Proofs.Yteblpjhkgdpchaa
open Go.AM
section
variable {c:Nat} {b:List UInt8}
def zY (c:Nat) (b:List UInt8) (k d n:Nat):AM.Frame:=[(0,.ro c (.pb b) 1),(1,.int .i64 (k:Nat)),(2,.int .i64 (d:Nat)),(7,.int .i64 (n:Nat))]
theorem XB {m k d n:Nat} {E:AM.Heap} (hd:1≤d) (hdk:d≤k) (hn:n≤258) (hb:b.length≤100000) (hk:k≤100000):∃ code,((Try.f27.body).bind (aS [1,1,0,0,0,0,0])) = some code∧Run X (evT X) 27 m code (zY c b k d n) E ⟨.normal,zY c b k d n ++ [(34,.bool (decide (n < 258∧k + n < b.length∧b[k - d + n]? = b[k + n]?)))],E⟩:=by
  refine ⟨_,rfl,?_⟩
  simp only [zY]
  by_cases h1:n < 258
  · have h1I:(n:Int) < 258:=by omega
    have w1:IntKind.i64.wrap ((k:Int) + (n:Int)) = ((k + n:Nat):Int):=by rw [wrap_i64 (by omega) (by omega)];omega
    have w2:IntKind.i64.wrap (((k + n:Nat):Int) - (d:Int)) = ((k - d + n:Nat):Int):=by rw [wrap_i64 (by omega) (by omega)];omega
    by_cases h2:k + n < b.length
    · have h2I:((k + n:Nat):Int) < (b.length:Int):=by omega
      have h3I:((k - d + n:Nat):Int) < (b.length:Int):=by omega
      have h3:k - d + n < b.length:=by omega
      obtain ⟨x,hx⟩:∃ x,b[k - d + n]? = some x:=⟨_,List.getElem?_eq_getElem h3⟩
      obtain ⟨y,hy⟩:∃ y,b[k + n]? = some y:=⟨_,List.getElem?_eq_getElem h2⟩
      rw [hx,hy]
      by_cases hxy:x = y
      · subst hxy
        rw [show decide (n < 258∧k + n < b.length∧some x = some x) = true by simp [h1,h2]]
        generalize k - d + n = n2 at *
        generalize k + n = kn at *
        (refine ⟨0,?_⟩;simp (maxSteps:=2000000) -implicitDefEqProofs [-getElem?_pos,go_sem,eqV,aj,h1,h1I,w1,w2,h2,h2I,h3,h3I,hx,hy])
      · rw [show decide (n < 258∧k + n < b.length∧some x = some y) = false by simp [hxy]]
        have hxI:¬ (y.toNat:Int) = (x.toNat:Int):=fun h=>hxy (UInt8.toNat_inj.1 (by omega))
        have hxN:¬ y.toNat = x.toNat:=fun h=>hxy (UInt8.toNat_inj.1 h.symm)
        generalize k - d + n = n2 at *
        generalize k + n = kn at *
        (refine ⟨0,?_⟩;simp (maxSteps:=2000000) -implicitDefEqProofs [-getElem?_pos,go_sem,eqV,aj,h1,h1I,w1,w2,h2,h2I,h3,h3I,hx,hy,hxI,hxN])
    · have h2I:¬ ((k + n:Nat):Int) < (b.length:Int):=by omega
      rw [show decide (n < 258∧k + n < b.length∧b[k - d + n]? = b[k + n]?) = false by simp [h2]]
      generalize k - d + n = n2 at *
      generalize k + n = kn at *
      (refine ⟨0,?_⟩;simp (maxSteps:=2000000) -implicitDefEqProofs [-getElem?_pos,go_sem,eqV,aj,h1,h1I,w1,w2,h2,h2I])
  · have h1I:¬ (n:Int) < 258:=by omega
    rw [show decide (n < 258∧k + n < b.length∧b[k - d + n]? = b[k + n]?) = false by simp [h1]]
    (refine ⟨0,?_⟩;simp (maxSteps:=2000000) -implicitDefEqProofs [-getElem?_pos,go_sem,eqV,aj,h1,h1I])
theorem GY {m k d:Nat} {E:AM.Heap} (hd:1≤d) (hdk:d≤k) (hb:b.length≤100000) (hk:k≤100000):∃ code,Try.f27.body = some code ∧
    au (fun o=>o = ⟨.ret,[(6,.int .i64 (bP b (k - d) k 258 0:Nat))],E⟩) X (evT X) 27 m code [(0,.ro c (.pb b) 1),(1,.int .i64 (k:Nat)),(2,.int .i64 (d:Nat))] E:=by
  refine ⟨_,rfl,?_⟩
  apply au.seq (fr':=[(0,.ro c (.pb b) 1),(1,.int .i64 (k:Nat)),(2,.int .i64 (d:Nat))]) (H':=E)
  · (refine ⟨0,?_⟩;simp (maxSteps:=2000000) -implicitDefEqProofs [-getElem?_pos,go_sem,eqV,aj])
  apply au.seq (fr':=zY c b k d 0) (H':=E)
  · simp only [zY]
    (refine ⟨0,?_⟩;simp (maxSteps:=2000000) -implicitDefEqProofs [-getElem?_pos,go_sem,eqV,aj,aC])
  apply au.andThen (P:=fun fr H=>fr = zY c b k d (bP b (k - d) k 258 0) ++ [(34,.bool false)]∧H = E)
  · apply au.block
    refine au.loop (σ:=Nat) (fun n=>n≤258∧bP b (k - d) k (258 - n) n = bP b (k - d) k 258 0) (fun n=>zY c b k d n) (fun _=>E) (fun n=>258 - n) ?_ 0 ⟨by omega,rfl⟩
    rintro n ⟨hn,he⟩
    have h2:=XB (m:=m) (c:=c) (E:=E) hd hdk hn hb hk
    by_cases hc:n < 258∧k + n < b.length∧b[k - d + n]? = b[k + n]?
    · left
      refine ⟨n + 1,⟨by omega,by rw [← Dc hc];exact he⟩,?_,by omega⟩
      rw [decide_eq_true hc] at h2
      apply Run.seq (fr':=zY c b k d n ++ [(34,.bool true)]) (H':=E)
      · apply Run.seq (piece h2 _ rfl)
        refine Run.cond (d:=true) (by simp [zY,aK,aI]) ⟨0,rfl⟩
      · apply Run.block
        · have w1:IntKind.i64.wrap ((n:Int) + 1) = ((n + 1:Nat):Int):=by rw [wrap_i64 (by omega) (by omega)];omega
          simp only [zY]
          (refine ⟨0,?_⟩;simp (maxSteps:=2000000) -implicitDefEqProofs [-getElem?_pos,go_sem,eqV,aj,w1,aC])
        · simp
    · right
      rw [decide_eq_false hc] at h2
      refine ⟨⟨.exit 0,zY c b k d n ++ [(34,.bool false)],E⟩,⟨rfl,by rw [← he,ES hc],rfl⟩,by simp,?_⟩
      refine Run.bH ?_ (by simp)
      apply Run.seq (piece h2 _ rfl)
      refine Run.cond (d:=false) (by simp [zY,aK,aI]) ⟨0,rfl⟩
  rintro fr H ⟨rfl,rfl⟩
  generalize bP b (k - d) k 258 0 = n at *
  refine au.of (o:=⟨.ret,[(6,.int .i64 (n:Nat))],H⟩) ?_ rfl
  refine ⟨0,?_⟩
  simp only [zY]
  simp (maxSteps:=2000000) -implicitDefEqProofs [-getElem?_pos,go_sem,eqV,aj,aC]
theorem Lm {H:AM.Heap} {a:AV} {k d:Nat} (ha:iD H a = some (.pb b)) (hd:1≤d) (hdk:d≤k) (hb:b.length≤100000) (hk:k≤100000):evT X 27 [a,.int .i64 (k:Nat),.int .i64 (d:Nat)] H = some (.int .i64 (bP b (k - d) k 258 0:Nat),H):=by
  have h3:=iM (C:=X) (f:=27) (i:=2) (a:=.int .i64 (d:Nat)) (H:=H) rfl rfl (dQ 3)
  have h2:=iM (C:=X) (f:=27) (i:=1) (a:=.int .i64 (k:Nat)) (H:=H) rfl rfl h3
  obtain ⟨c,x,hx⟩:=fJ (C:=X) (f:=27) (i:=0) rfl ha h2
  obtain ⟨code,hc,o,rfl,hr⟩:=GY (m:=0) (c:=c) (b:=b) (E:=[]) hd hdk hb hk
  refine eH (Ev1.pR (l:=[.int .i64 (bP b (k - d) k 258 0:Nat)]) (bJ X) Try.func27 hc hx rfl (by simp [dJ]) rfl rfl rfl ?_)
  rw [WS]
  exact ⟨_,⟨rfl,rfl⟩,hr⟩
def jX (b:List UInt8) (p:Nat):Nat→Nat→Nat × Nat→Nat × Nat
  | 0,_,s=>s
  | f + 1,k,s=>if k≤p∧k≤32768∧s.1 < 258 then jX b p f (k + 1) (if s.1 < bP b (p - k) p 258 0 then (bP b (p - k) p 258 0,k) else s) else s
def sS (b:List UInt8) (p:Nat):Pc:=if 3≤(jX b p p 1 (0,0)).1 then ⟨(jX b p p 1 (0,0)).1,(jX b p p 1 (0,0)).2,0⟩ else ⟨0,0,b.getD p 0⟩
def sU (b:List UInt8):Nat→Nat→List Pc
  | 0,_=>[]
  | f + 1,p=>if p < b.length then sS b p :: sU b f (p + max 1 (sS b p).len) else []
def tY (c:Nat) (b:List UInt8) (v:AV) (p n d k:Nat):AM.Frame:=[(0,.ro c (.pb b) 1),(3,v),(4,.int .i64 (p:Nat)),(5,.int .i64 (n:Nat)),(6,.int .i64 (d:Nat)),(7,.int .i64 (k:Nat))]
theorem XC {m p n d k:Nat} {v:AV} {E:AM.Heap}:∃ code,((Try.f17.body).bind (aS [1,1,0,1,0,0,1,0,1,0,1,0,0,0,0])) = some code∧Run X (evT X) 17 m code (tY c b v p n d k) E ⟨.normal,tY c b v p n d k ++ [(23,.bool (decide (k≤p∧k≤32768∧n < 258)))],E⟩:=by
  refine ⟨_,rfl,?_⟩
  simp only [tY]
  by_cases h1:k≤p
  · have h1I:(k:Int)≤(p:Int):=by omega
    by_cases h2:k≤32768
    · have h2I:(k:Int)≤32768:=by omega
      by_cases h3:n < 258
      · have h3I:(n:Int) < 258:=by omega
        rw [decide_eq_true ⟨h1,h2,h3⟩]
        (refine ⟨0,?_⟩;simp (maxSteps:=2000000) -implicitDefEqProofs [-getElem?_pos,go_sem,eqV,aj,h1,h1I,h2,h2I,h3,h3I])
      · have h3I:¬ (n:Int) < 258:=by omega
        rw [decide_eq_false (by omega)]
        (refine ⟨0,?_⟩;simp (maxSteps:=2000000) -implicitDefEqProofs [-getElem?_pos,go_sem,eqV,aj,h1,h1I,h2,h2I,h3,h3I])
    · have h2I:¬ (k:Int)≤32768:=by omega
      rw [decide_eq_false (by omega)]
      (refine ⟨0,?_⟩;simp (maxSteps:=2000000) -implicitDefEqProofs [-getElem?_pos,go_sem,eqV,aj,h1,h1I,h2,h2I])
  · have h1I:¬ (k:Int)≤(p:Int):=by omega
    rw [decide_eq_false (by omega)]
    (refine ⟨0,?_⟩;simp (maxSteps:=2000000) -implicitDefEqProofs [-getElem?_pos,go_sem,eqV,aj,h1,h1I])
theorem XD {m p n d k:Nat} {v:AV} {E:AM.Heap} (hk1:1≤k) (hk:k≤p) (hb:b.length≤1400) (hp:p≤1400) (hn:n≤258):∃ code,((Try.f17.body).bind (aS [1,1,0,1,0,0,1,0,1,0,1,0,0,1])) = some code∧Run X (evT X) 17 m code (tY c b v p n d k ++ [(23,.bool true)]) E ⟨.normal,tY c b v p (if n < bP b (p - k) p 258 0 then (bP b (p - k) p 258 0,k) else (n,d)).1 (if n < bP b (p - k) p 258 0 then (bP b (p - k) p 258 0,k) else (n,d)).2 (k + 1),E⟩:=by
  refine ⟨_,rfl,?_⟩
  have hL:=Lm (H:=E) (a:=.ro c (.pb b) 1) (b:=b) rfl hk1 hk (by omega) (by omega)
  have w1:IntKind.i64.wrap ((k:Int) + 1) = ((k + 1:Nat):Int):=by rw [wrap_i64 (by omega) (by omega)];omega
  generalize bP b (p - k) p 258 0 = y at *
  generalize k + 1 = k1 at *
  by_cases h:n < y
  · have hI:(n:Int) < (y:Int):=by omega
    rw [if_pos h]
    simp only [tY]
    (refine ⟨0,?_⟩;simp (maxSteps:=2000000) -implicitDefEqProofs [-getElem?_pos,go_sem,eqV,aj,hL,h,hI,w1])
  · have hI:¬ (n:Int) < (y:Int):=by omega
    rw [if_neg h]
    simp only [tY]
    (refine ⟨0,?_⟩;simp (maxSteps:=2000000) -implicitDefEqProofs [-getElem?_pos,go_sem,eqV,aj,hL,h,hI,w1])
theorem SX {m p:Nat} {v:AV} {E:AM.Heap} (hb:b.length≤1400) (hp:p≤1400):∃ code,((Try.f17.body).bind (aS [1,1,0,1,0,0,1,0,1,0,1])) = some code∧au (Goes fun fr H=>∃ K,fr = tY c b v p (jX b p p 1 (0,0)).1 (jX b p p 1 (0,0)).2 K ++ [(23,.bool false)]∧H = E) X (evT X) 17 m code (tY c b v p 0 0 1) E:=by
  refine ⟨_,rfl,?_⟩
  apply au.block
  refine au.loop (σ:=Nat × (Nat × Nat)) (fun s=>1≤s.1∧s.1≤p + 1∧s.2.1≤258∧jX b p (p + 1 - s.1) s.1 s.2 = jX b p p 1 (0,0)) (fun s=>tY c b v p s.2.1 s.2.2 s.1) (fun _=>E) (fun s=>p + 1 - s.1) ?_ (1,(0,0)) ⟨by simp,by simp,by simp,rfl⟩
  rintro ⟨k,n,d⟩ ⟨h1,h2,h3,h4⟩
  simp only at h1 h2 h3 h4 ⊢
  have h6:=XC (m:=m) (c:=c) (b:=b) (p:=p) (n:=n) (d:=d) (k:=k) (v:=v) (E:=E)
  by_cases hc:k≤p∧k≤32768∧n < 258
  · left
    obtain ⟨g,hg⟩:∃ g,p + 1 - k = g + 1:=⟨p - k,by omega⟩
    rw [hg,jX,if_pos hc] at h4
    rw [decide_eq_true hc] at h6
    have hsb:=(pJ b (p - k) p 258 0 (by omega)).1
    refine ⟨(k + 1,if n < bP b (p - k) p 258 0 then (bP b (p - k) p 258 0,k) else (n,d)),⟨by simp,by simp only;omega,?_,?_⟩,?_,by simp only;omega⟩
    · simp only
      split
      · exact hsb
      · exact h3
    · rw [← h4]
      congr 1
      simp only
      omega
    · apply Run.seq (fr':=tY c b v p n d k ++ [(23,.bool true)]) (H':=E)
      · apply Run.seq (piece h6 _ rfl)
        exact Run.cond (d:=true) (by simp [tY,aK,aI]) ⟨0,rfl⟩
      · exact piece (XD h1 hc.1 hb hp h3) _ rfl
  · right
    rw [decide_eq_false hc] at h6
    have hr:jX b p (p + 1 - k) k (n,d) = (n,d):=by
      cases hq:p + 1 - k with
      | zero=>rfl
      | succ f=>rw [jX,if_neg hc]
    rw [hr] at h4
    refine ⟨⟨.exit 2,tY c b v p n d k ++ [(23,.bool false)],E⟩,⟨rfl,k,by rw [← h4],rfl⟩,by simp,?_⟩
    refine Run.bH ?_ (by simp)
    apply Run.seq (piece h6 _ rfl)
    exact Run.cond (d:=false) (by simp [tY,aK,aI]) ⟨0,rfl⟩
end
end Go.Proofs.Yteblpjhkgdpchaa
namespace Go.Proofs.Yteblpjhkgdpchaa
open Go.AM
def lkR (k:List UInt8):Pls→List Nat
  | []=>[]
  | y :: M=>if y.1 = k then y.2 else lkR k M
def ntR (k:List UInt8) (i:Nat):Pls→Pls
  | []=>[(k,[i])]
  | y :: M=>if y.1 = k then (k,y.2 ++ [i]) :: M else y :: ntR k i M
theorem QD (k:List UInt8):∀ (M:Pls) (j0:Nat),lkR k M = (match qK k M j0 with | some j=>(M.getD (j - j0) ([],[])).2 | none=>[])
  | [],_=>rfl
  | y :: M,j0=>by
    unfold lkR qK
    by_cases h:y.1 = k
    · rw [if_pos h,if_pos h];simp
    · rw [if_neg h,if_neg h,QD k M (j0 + 1)]
      cases hi:qK k M (j0 + 1) with
      | none=>rfl
      | some j =>
        have:=(wo hi).1
        simp only
        rw [show j - j0 = (j - (j0 + 1)) + 1 by omega]
        rfl
theorem Vt (M:Pls) (k:List UInt8):lkM M k = lkR k M:=by
  rw [QD k M 0]
  rfl
theorem QE (k:List UInt8) (i:Nat):∀ (M:Pls) (j0:Nat),ntR k i M = (match qK k M j0 with | some j=>M.set (j - j0) (k,(M.getD (j - j0) ([],[])).2 ++ [i]) | none=>M ++ [(k,[i])])
  | [],_=>rfl
  | y :: M,j0=>by
    unfold ntR qK
    by_cases h:y.1 = k
    · rw [if_pos h,if_pos h];simp
    · rw [if_neg h,if_neg h,QE k i M (j0 + 1)]
      cases hi:qK k M (j0 + 1) with
      | none=>rfl
      | some j =>
        have:=(wo hi).1
        simp only
        rw [show j - j0 = (j - (j0 + 1)) + 1 by omega]
        rfl
theorem Vu (M:Pls) (k:List UInt8) (i:Nat):ntM M k i = ntR k i M:=by
  rw [QE k i M 0]
  rfl
theorem QF (k k':List UInt8) (i:Nat):∀ M:Pls,lkR k' (ntR k i M) = if k' = k then lkR k M ++ [i] else lkR k' M
  | []=>by
    unfold ntR lkR
    by_cases h:k = k'
    · rw [if_pos h,if_pos h.symm];rfl
    · rw [if_neg h,if_neg fun e=>h e.symm];rfl
  | y :: M=>by
    unfold ntR
    by_cases h:y.1 = k
    · rw [if_pos h]
      by_cases h2:k' = k
      · subst h2
        simp [lkR,h]
      · have h3:¬ k = k':=fun e=>h2 e.symm
        have h4:¬ y.1 = k':=fun e=>h2 (e.symm.trans h)
        simp [lkR,h2,h3,h4]
    · rw [if_neg h]
      by_cases h2:k' = k
      · subst h2
        have:=QF k' k' i M
        rw [if_pos rfl] at this ⊢
        simp only [lkR,if_neg h,this]
      · have:=QF k k' i M
        rw [if_neg h2] at this ⊢
        simp only [lkR,this]
def wC (b:List UInt8) (k:List UInt8) (p:Nat):List Nat:=(List.range p).filter fun i=>decide (i + 3≤b.length) && decide (jW b i = k)
theorem TL (b:List UInt8) (M:Pls) (p k:Nat):∀ n,rG b (rG b M p k) (p + k) n = rG b M p (k + n)
  | 0=>rfl
  | n + 1=>by
    show ntB b _ _ = ntB b _ _
    rw [TL b M p k n,Nat.add_assoc]
    rfl
theorem TM (b:List UInt8) (k:List UInt8):∀ p,lkM (rG b [] 0 p) k = wC b k p
  | 0=>rfl
  | p + 1=>by
    have ih:=TM b k p
    rw [Vt] at ih ⊢
    show lkR k (ntB b (rG b [] 0 p) (0 + p)) = _
    unfold wC at ih ⊢
    rw [List.range_succ,List.filter_append,Nat.zero_add]
    unfold ntB
    by_cases h:p + 3≤b.length
    · rw [if_pos h,Vu,QF]
      by_cases h2:k = jW b p
      · rw [if_pos h2,← h2,ih]
        simp [h,← h2]
      · have h3:¬ jW b p = k:=fun e=>h2 e.symm
        rw [if_neg h2,ih]
        simp [h3]
    · rw [if_neg h,ih]
      simp [h]
end Go.Proofs.Yteblpjhkgdpchaa
namespace Go.Proofs.Yteblpjhkgdpchaa
open Go.AM
theorem Lp {b:List UInt8} {i p:Nat} (h:3≤bP b i p 258 0) (hi:i < p):p + 3≤b.length∧i + 3≤b.length∧jW b i = jW b p:=by
  have step:∀ {n f:Nat},n < bP b i p (f + 1) n→(n < 258∧p + n < b.length∧b[i + n]? = b[p + n]?)∧bP b i p (f + 1) n = bP b i p f (n + 1):=by
    intro n f hn
    have e:bP b i p (f + 1) n = if n < 258∧p + n < b.length∧b[i + n]? = b[p + n]? then bP b i p f (n + 1) else n:=rfl
    rw [e] at hn ⊢
    by_cases hc:n < 258∧p + n < b.length∧b[i + n]? = b[p + n]?
    · exact ⟨hc,by rw [if_pos hc]⟩
    · rw [if_neg hc] at hn
      omega
  replace h:3≤bP b i p (257 + 1) 0:=h
  obtain ⟨a1,e1⟩:=step (n:=0) (f:=257) (by omega)
  rw [e1] at h
  replace h:3≤bP b i p (256 + 1) 1:=h
  obtain ⟨a2,e2⟩:=step (n:=1) (f:=256) (by omega)
  rw [e2] at h
  replace h:3≤bP b i p (255 + 1) 2:=h
  obtain ⟨a3,e3⟩:=step (n:=2) (f:=255) (by omega)
  have hp:p + 2 < b.length:=a3.2.1
  have x0:b[p]? = some b[p]:=List.getElem?_eq_getElem (by omega)
  have x1:b[p + 1]? = some b[p + 1]:=List.getElem?_eq_getElem (by omega)
  have x2:b[p + 2]? = some b[p + 2]:=List.getElem?_eq_getElem (by omega)
  refine ⟨by omega,by omega,?_⟩
  rw [key_eq x0 x1 x2,key_eq (by rw [← x0];exact a1.2.2) (by rw [← x1];exact a2.2.2) (by rw [← x2];exact a3.2.2)]
end Go.Proofs.Yteblpjhkgdpchaa
namespace Go.Proofs.Yteblpjhkgdpchaa
open Go.AM
theorem GZ (b:List UInt8) (p:Nat):∀ (f k:Nat) (s:Nat × Nat),s.1≤258→p + s.1≤b.length→(jX b p f k s).1≤258∧p + (jX b p f k s).1≤b.length
  | 0,_,s,h,h2=>⟨h,h2⟩
  | f + 1,k,s,h,h2=>by
    unfold jX
    split
    · refine GZ b p f (k + 1) _ ?_ ?_
      · split
        · exact (pJ b (p - k) p 258 0 (by omega)).1
        · exact h
      · split
        · exact wu b (p - k) p 258 0 (by omega)
        · exact h2
    · exact ⟨h,h2⟩
section
variable {c:Nat} {b:List UInt8}
def qM (c:Nat) (b:List UInt8) (v:AV) (p:Nat):AM.Frame:=[(0,.ro c (.pb b) 1),(3,v),(4,.int .i64 (p:Nat))]
def rp0:Option AM.Obj:=some ⟨.pr 3 [],0,none,0,true,false,0⟩
theorem QG {m p n d N g:Nat} {v:AV} {E E':AM.Heap} {fr:AM.Frame} (hn:3≤n) (hp:p≤100000) (hn2:n≤258) (hA:dV X E 22 v (.ro 1 (.pr 3 [pcR ⟨n,d,0⟩]) 0) = some (.sl 1 0 N g,E')) :
    ∃ code,((Try.f17.body).bind (aS [1,1,0,1,0,0,1,0,1,1,1,0])) = some code∧Run X (evT X) 17 m code [(0,.ro c (.pb b) 1),(3,v),(4,.int .i64 (p:Nat)),(5,.int .i64 (n:Nat)),(6,.int .i64 (d:Nat)),(36,.bool true)] E ⟨.normal,qM c b (.sl 1 0 N g) (p + n),E'⟩:=by
  refine ⟨_,rfl,?_⟩
  have w1:IntKind.i64.wrap ((p:Int) + (n:Int)) = ((p + n:Nat):Int):=by rw [wrap_i64 (by omega) (by omega)];omega
  simp only [pcR] at hA
  have hA':dV X E 22 v (.ro 1 (.pr 3 [.pc [.int .i64 (n:Nat),.int .i64 (d:Nat),.int .u8 0]]) 0) = some (.sl 1 0 N g,E'):=hA
  generalize p + n = pn at *
  simp only [qM]
  (refine ⟨0,?_⟩;simp (maxSteps:=2000000) -implicitDefEqProofs [-getElem?_pos,go_sem,eqV,aj,w1,TK,Vg,hA',aC,OD,jI,retag])
theorem QJ {m p N g:Nat} {y:UInt8} {n d:Int} {v:AV} {E E':AM.Heap} (hy:b[p]? = some y) (hp:p≤100000) (hA:dV X E 22 v (.ro 1 (.pr 3 [pcR ⟨0,0,y⟩]) 0) = some (.sl 1 0 N g,E')) :
    ∃ code,((Try.f17.body).bind (aS [1,1,0,1,0,0,1,0,1,1,1,1])) = some code∧Run X (evT X) 17 m code [(0,.ro c (.pb b) 1),(3,v),(4,.int .i64 (p:Nat)),(5,.int .i64 n),(6,.int .i64 d),(36,.bool false)] E ⟨.normal,qM c b (.sl 1 0 N g) (p + 1),E'⟩:=by
  refine ⟨_,rfl,?_⟩
  have w1:IntKind.i64.wrap ((p:Int) + 1) = ((p + 1:Nat):Int):=by rw [wrap_i64 (by omega) (by omega)];omega
  have hl:=iF hy
  have hlI:(p:Int) < (b.length:Int):=by omega
  simp only [pcR] at hA
  have hA':dV X E 22 v (.ro 1 (.pr 3 [.pc [.int .i64 0,.int .i64 0,.int .u8 (y.toNat:Nat)]]) 0) = some (.sl 1 0 N g,E'):=hA
  generalize p + 1 = p1 at *
  simp only [qM]
  (refine ⟨0,?_⟩;simp (maxSteps:=2000000) -implicitDefEqProofs [-getElem?_pos,go_sem,eqV,aj,w1,hy,hl,hlI,TJ,Vg,hA',aC,OD,jI,retag])
theorem SY {p:Nat} (hp:p < b.length):p + max 1 (sS b p).len≤b.length:=by
  have:=(GZ b p p 1 (0,0) (by simp) (by simp;omega)).2
  unfold sS
  split
  · simp only;omega
  · simp only;omega
theorem G5 {m:Nat} (hb:b.length≤1400):∃ code,Try.f17.body = some code ∧
    au (nY fun fr E'=>∃ g ob,aI fr 2 = .sl 1 0 (sU b b.length 0).length g∧E'[1]? = some (some ob)∧Rw (.pr 3 ((sU b b.length 0).map pcR)) g ob) X (evT X) 17 m code [(0,.ro c (.pb b) 1)] []:=by
  refine ⟨_,rfl,?_⟩
  apply au.seq (fr':=[(0,.ro c (.pb b) 1)]) (H':=[rp0])
  · simp only [rp0]
    (refine ⟨0,?_⟩;simp (maxSteps:=2000000) -implicitDefEqProofs [-getElem?_pos,go_sem,eqV,aj,aC,rowOf,QZ])
  apply au.seq (fr':=[(0,.ro c (.pb b) 1),(3,.sl 1 0 0 0)]) (H':=[rp0,rp0])
  · simp only [rp0]
    (refine ⟨0,?_⟩;simp (maxSteps:=2000000) -implicitDefEqProofs [-getElem?_pos,go_sem,eqV,aj,aC,rowOf,QZ])
  have h0:([rp0,rp0]:AM.Heap)[1]? = some (some ⟨.pr 3 [],0,none,0,true,false,0⟩):=rfl
  generalize ([rp0,rp0]:AM.Heap) = E0 at *
  apply au.assoc
  apply au.seq (fr':=qM c b (.sl 1 0 0 0) 0) (H':=E0)
  · simp only [qM]
    (refine ⟨0,?_⟩;simp (maxSteps:=2000000) -implicitDefEqProofs [-getElem?_pos,go_sem,eqV,aj])
  apply au.andThen (P:=fun fr E'=>∃ g ob,aI fr 3 = .sl 1 0 (sU b b.length 0).length g∧E'[1]? = some (some ob)∧Rw (.pr 3 ((sU b b.length 0).map pcR)) g ob)
  · apply au.block
    refine au.lJ (I:=fun q fr E'=>∃ g ob L p,fr = qM c b (.sl 1 0 L.length g) p∧E'[1]? = some (some ob)∧Rw (.pr 3 (L.map pcR)) g ob∧p≤b.length∧b.length≤p + q∧L.length≤p∧L ++ sU b q p = sU b b.length 0) ?_ (k:=b.length) ⟨0,_,[],0,rfl,h0,⟨rfl,rfl,rfl,rfl,rfl⟩,by omega,by omega,by simp,rfl⟩
    rintro q fr E' ⟨g,ob,L,p,rfl,ho,hw,hp,hq,hL,he⟩
    apply au.assoc
    by_cases hpl:p < b.length
    · have JH:(p:Int) < (b.length:Int):=by omega
      obtain ⟨q,rfl⟩:∃ q',q = q' + 1:=⟨q - 1,by omega⟩
      obtain ⟨y,hy⟩:∃ y,b[p]? = some y:=⟨_,List.getElem?_eq_getElem hpl⟩
      rw [sU,if_pos hpl] at he
      have hfit:=SY hpl
      apply au.seq (fr':=qM c b (.sl 1 0 L.length g) p ++ [(12,.bool true)]) (H':=E')
      · simp only [qM]
        generalize L.length = N at *
        generalize hB:b.length = B at *
        (refine ⟨0,?_⟩;simp (maxSteps:=2000000) -implicitDefEqProofs [-getElem?_pos,go_sem,eqV,aj,JH,hpl,hB])
      apply au.seq (fr':=qM c b (.sl 1 0 L.length g) p ++ [(12,.bool true)]) (H':=E')
      · exact Run.cond (d:=true) (by simp [qM,aK,aI]) ⟨0,rfl⟩
      suffices hT:au (Goes fun fr E2=>∃ g' ob',fr = qM c b (.sl 1 0 (L ++ [sS b p]).length g') (p + max 1 (sS b p).len)∧E2[1]? = some (some ob')∧Rw (.pr 3 ((L ++ [sS b p]).map pcR)) g' ob') X (evT X) 17 m _ (qM c b (.sl 1 0 L.length g) p ++ [(12,.bool true)]) E' from hT.mono fun o ⟨h1,g',ob',h2,h3,h4⟩=>.inl ⟨h1,q,by omega,g',ob',_,_,h2,h3,h4,hfit,by omega,by simp;omega,by rw [← he];simp⟩
      refine au.blk ?_ (fun o ho=>by rw [ho.1];simp)
      apply au.seq (fr':=[(0,.ro c (.pb b) 1),(3,.sl 1 0 L.length g),(4,.int .i64 (p:Nat)),(5,.int .i64 0),(6,.int .i64 0)]) (H':=E')
      · simp only [qM]
        generalize L.length = N at *
        (refine ⟨0,?_⟩;simp (maxSteps:=2000000) -implicitDefEqProofs [-getElem?_pos,go_sem,eqV,aj])
      apply au.assoc
      apply au.seq (fr':=tY c b (.sl 1 0 L.length g) p 0 0 1) (H':=E')
      · simp only [tY]
        generalize L.length = N at *
        (refine ⟨0,?_⟩;simp (maxSteps:=2000000) -implicitDefEqProofs [-getElem?_pos,go_sem,eqV,aj])
      apply au.andThen (piece (SX (m:=m) (c:=c) (b:=b) (p:=p) (v:=.sl 1 0 L.length g) (E:=E') hb (by omega)) _ rfl)
      rintro fr E2 ⟨K,rfl,rfl⟩
      have XE:=(GZ b p p 1 (0,0) (by simp) (by simp;omega)).1
      obtain ⟨ob',hw',hA⟩:=G7 (C:=X) (T:=22) (e:=25) (es:=3) (H:=E2) (o:=1) (m:=[pcR (sS b p)]) (src:=.ro 1 (.pr 3 [pcR (sS b p)]) 0) (by simp) (by simp) (by omega) (by simp) (by simp) ho hw rfl (by simp;omega)
      rw [List.length_map] at hA
      have hw2:Rw (.pr 3 ((L ++ [sS b p]).map pcR)) (g + 1) ob':=by rw [List.map_append];exact hw'
      have hlen2:(L ++ [sS b p]).length = L.length + 1:=by simp
      rw [hlen2]
      have hget:b.getD p 0 = y:=by rw [List.getD_eq_getElem?_getD,hy];rfl
      by_cases h3:3≤(jX b p p 1 (0,0)).1
      · have h3I:(3:Int)≤((jX b p p 1 (0,0)).1:Nat):=by omega
        have hpc:sS b p = ⟨(jX b p p 1 (0,0)).1,(jX b p p 1 (0,0)).2,0⟩:=by unfold sS;rw [if_pos h3]
        have hmx:max 1 (sS b p).len = (jX b p p 1 (0,0)).1:=by rw [hpc];simp only;omega
        rw [hmx]
        rw [hpc] at hA
        refine au.of (o:=⟨.normal,qM c b (.sl 1 0 (L.length + 1) (g + 1)) (p + (jX b p p 1 (0,0)).1),AM.upd E2 1 (some ob')⟩) ?_ ⟨rfl,g + 1,ob',rfl,setAt ho,hw2⟩
        have ht:=QG (m:=m) (c:=c) (b:=b) (p:=p) (n:=(jX b p p 1 (0,0)).1) (d:=(jX b p p 1 (0,0)).2) (fr:=[]) h3 (by omega) XE hA
        generalize (jX b p p 1 (0,0)).1 = n at *
        generalize (jX b p p 1 (0,0)).2 = d at *
        generalize p + n = pn at *
        apply Run.seq (fr':=[(0,.ro c (.pb b) 1),(3,.sl 1 0 L.length g),(4,.int .i64 (p:Nat)),(5,.int .i64 (n:Nat)),(6,.int .i64 (d:Nat)),(36,.bool true)]) (H':=E2)
        · simp only [tY]
          generalize L.length = N at *
          (refine ⟨0,?_⟩;simp (maxSteps:=2000000) -implicitDefEqProofs [-getElem?_pos,go_sem,eqV,aj,h3I,h3])
        · exact Run.cond (d:=true) (by simp [aK,aI]) (piece ht _ rfl)
      · have h3I:¬ (3:Int)≤((jX b p p 1 (0,0)).1:Nat):=by omega
        have hpc:sS b p = ⟨0,0,y⟩:=by unfold sS;rw [if_neg h3,hget]
        have hmx:max 1 (sS b p).len = 1:=by rw [hpc];rfl
        rw [hmx]
        rw [hpc] at hA
        refine au.of (o:=⟨.normal,qM c b (.sl 1 0 (L.length + 1) (g + 1)) (p + 1),AM.upd E2 1 (some ob')⟩) ?_ ⟨rfl,g + 1,ob',rfl,setAt ho,hw2⟩
        have ht:=QJ (m:=m) (c:=c) (b:=b) (p:=p) (n:=((jX b p p 1 (0,0)).1:Nat)) (d:=((jX b p p 1 (0,0)).2:Nat)) hy (by omega) hA
        generalize (jX b p p 1 (0,0)).1 = n at *
        generalize (jX b p p 1 (0,0)).2 = d at *
        apply Run.seq (fr':=[(0,.ro c (.pb b) 1),(3,.sl 1 0 L.length g),(4,.int .i64 (p:Nat)),(5,.int .i64 (n:Nat)),(6,.int .i64 (d:Nat)),(36,.bool false)]) (H':=E2)
        · simp only [tY]
          generalize L.length = N at *
          (refine ⟨0,?_⟩;simp (maxSteps:=2000000) -implicitDefEqProofs [-getElem?_pos,go_sem,eqV,aj,h3I,h3])
        · exact Run.cond (d:=false) (by simp [aK,aI]) (piece ht _ rfl)
    · have JH:¬ (p:Int) < (b.length:Int):=by omega
      have hq0:sU b q p = []:=by
        cases q with
        | zero=>rfl
        | succ q=>rw [sU,if_neg hpl]
      rw [hq0,List.append_nil] at he
      refine au.of (o:=⟨.exit 0,qM c b (.sl 1 0 L.length g) p ++ [(12,.bool false)],E'⟩) ?_ (.inr ⟨by simp,rfl,g,ob,by rw [← he];simp [qM,aI],ho,by rw [← he];exact hw⟩)
      apply Run.seq (fr':=qM c b (.sl 1 0 L.length g) p ++ [(12,.bool false)]) (H':=E')
      · simp only [qM]
        generalize L.length = N at *
        generalize hB:b.length = B at *
        (refine ⟨0,?_⟩;simp (maxSteps:=2000000) -implicitDefEqProofs [-getElem?_pos,go_sem,eqV,aj,JH,hpl,hB])
      · refine Run.bH ?_ (by simp)
        exact Run.cond (d:=false) (by simp [qM,aK,aI]) ⟨0,rfl⟩
  rintro fr E' ⟨g,ob,hv,ho,hw⟩
  generalize sU b b.length 0 = L at *
  refine au.of (o:=⟨.ret,[(2,.sl 1 0 L.length g)],E'⟩) ?_ ⟨rfl,g,ob,rfl,ho,hw⟩
  generalize L.length = N at *
  refine ⟨0,?_⟩
  simp (maxSteps:=2000000) -implicitDefEqProofs [-getElem?_pos,go_sem,eqV,aj,hv,aC]
theorem DF {H:AM.Heap} {a:AV} (ha:iD H a = some (.pb b)) (hb:b.length≤1400):∃ ob,Rw (.pr 3 ((sU b b.length 0).map pcR)) 0 ob∧evT X 17 [a] H = some (.sl H.length 0 (sU b b.length 0).length 0,H ++ [some ob]):=by
  obtain ⟨c,x,hx⟩:=fJ (C:=X) (f:=17) (i:=0) rfl ha (dQ 1)
  obtain ⟨code,hc,⟨out,⟨ho,g,ob,h2,h4,hw⟩,hrun⟩⟩:=G5 (m:=0) (c:=c) hb
  obtain ⟨f1,f2⟩:=G9 (sU b b.length 0)
  obtain ⟨ob',q1,q2⟩:=Ev1.newR (C:=X) (H:=H) (bJ X) (n:=(sU b b.length 0).length) (es:=3) (l:=(sU b b.length 0).map pcR) (rest:=[]) Try.func17 hc hx rfl (by simp [dJ]) rfl rfl rfl f1 f2 (by
    rw [WJ]
    refine ⟨out,⟨ho,1,g,ob,?_,h4,hw⟩,hrun⟩
    show bf X out.fr out.H [.tmp 2] = _
    simp [bf,h2])
  exact ⟨ob',q1,eH q2⟩
end
-- plain: the same pieces
def xW (b:List UInt8) (p:Nat) (s:Nat × Nat) (k:Nat):Nat × Nat:=if s.1 < bP b (p - k) p 258 0 then (bP b (p - k) p 258 0,k) else s
theorem zZ {b:List UInt8} {p:Nat} {s:Nat × Nat} {k:Nat} (h:¬ s.1 < 258):xW b p s k = s:=by
  unfold xW
  have:=(pJ b (p - k) p 258 0 (by omega)).1
  rw [if_neg (by omega)]
theorem xX {b:List UInt8} {p:Nat} {s:Nat × Nat} (h:¬ s.1 < 258):∀ L:List Nat,L.foldl (xW b p) s = s
  | []=>rfl
  | k :: L=>by rw [List.foldl_cons,zZ h,xX h L]
theorem Fe {b:List UInt8} {p:Nat} (hp:p≤32768):∀ (f k:Nat) (s:Nat × Nat),k + f = p + 1→jX b p f k s = (List.range' k f).foldl (xW b p) s
  | 0,k,s,h=>rfl
  | f + 1,k,s,h=>by
    rw [List.range'_succ,List.foldl_cons]
    unfold jX
    by_cases h3:s.1 < 258
    · rw [if_pos ⟨by omega,by omega,h3⟩]
      exact Fe hp f (k + 1) _ (by omega)
    · rw [if_neg (fun h=>h3 h.2.2),zZ h3,xX h3]
theorem Fg {b:List UInt8} {p:Nat} (hp:p≤32768):∀ (L:List Nat) (s:Nat × Nat),(∀ x ∈ L,x < p)→tH b p L s = (L.map fun x=>p - x).foldl (xW b p) s
  | [],s,_=>rfl
  | x :: L,s,h=>by
    have hx:=h x (List.mem_cons_self ..)
    have hr:=fun y hy=>h y (List.mem_cons_of_mem _ hy)
    rw [List.map_cons,List.foldl_cons]
    unfold tH
    have e:xW b p s (p - x) = if s.1 < bP b x p 258 0 then (bP b x p 258 0,p - x) else s:=by
      unfold xW
      rw [show p - (p - x) = x by omega]
    by_cases h3:s.1 < 258
    · rw [if_pos ⟨by omega,h3⟩,e]
      exact Fg hp L _ hr
    · rw [if_neg (fun h=>h3 h.2),zZ h3,xX h3]
theorem fold_filter {b:List UInt8} {p:Nat} (q:Nat→Bool) (hq:∀ k,q k = false→bP b (p - k) p 258 0 < 3):∀ (L:List Nat) (s s2:Nat × Nat),(s = s2∨(s.1 < 3∧s2.1 < 3))→(L.foldl (xW b p) s = (L.filter q).foldl (xW b p) s2∨((L.foldl (xW b p) s).1 < 3∧((L.filter q).foldl (xW b p) s2).1 < 3))
  | [],s,s2,h=>h
  | k :: L,s,s2,h=>by
    cases hk:q k with
    | true =>
      rw [List.filter_cons_of_pos hk,List.foldl_cons,List.foldl_cons]
      refine fold_filter q hq L _ _ ?_
      rcases h with rfl | ⟨h1,h2⟩
      · exact .inl rfl
      · unfold xW
        by_cases h3:bP b (p - k) p 258 0 < 3
        · right
          constructor <;> split <;> first | omega | (simp only;omega)
        · left
          rw [if_pos (by omega),if_pos (by omega)]
    | false =>
      rw [List.filter_cons_of_neg (by simp [hk]),List.foldl_cons]
      refine fold_filter q hq L _ _ ?_
      have h3:=hq k hk
      unfold xW
      split
      · rename_i hs
        right
        rcases h with rfl | ⟨h1,h2⟩
        · exact ⟨h3,by omega⟩
        · exact ⟨h3,h2⟩
      · exact h
theorem Oy (p:Nat):((List.range p).reverse).map (fun x=>p - x) = List.range' 1 p:=by
  refine List.ext_getElem (by simp) fun i h1 h2=>?_
  simp at h1 h2 ⊢
  omega
theorem QK {b:List UInt8} {p:Nat} (hp:p < b.length) (hb:b.length≤32768):sS b p = jl b (rG b [] 0 p) p:=by
  have hf:jX b p p 1 (0,0) = (List.range' 1 p).foldl (xW b p) (0,0):=Fe (by omega) p 1 (0,0) (by omega)
  have key:jX b p p 1 (0,0) = jE b (rG b [] 0 p) p∨((jX b p p 1 (0,0)).1 < 3∧(jE b (rG b [] 0 p) p).1 < 3):=by
    rw [hf]
    by_cases h3:p + 3≤b.length
    · have QL:jE b (rG b [] 0 p) p = ((wC b (jW b p) p).reverse.map fun x=>p - x).foldl (xW b p) (0,0):=by
        unfold jE
        rw [if_pos h3,TM,Fg (by omega)]
        intro x hx
        rw [List.mem_reverse] at hx
        unfold wC at hx
        exact List.mem_range.1 (List.mem_filter.1 hx).1
      have hfil:(wC b (jW b p) p).reverse.map (fun x=>p - x) = (List.range' 1 p).filter fun k=>decide (p - k + 3≤b.length) && decide (jW b (p - k) = jW b p):=by
        unfold wC
        rw [← Oy,List.filter_map,← List.filter_reverse]
        congr 1
        refine List.filter_congr fun x hx=>?_
        have hx:x < p:=by simpa using hx
        simp only [Function.comp]
        rw [show p - (p - x) = x by omega]
      rw [QL,hfil]
      refine fold_filter _ (fun k hk=>?_) _ _ _ (.inl rfl)
      refine Classical.byContradiction fun hc=>?_
      by_cases hkp:p - k < p
      · obtain ⟨a1,a2,a3⟩:=Lp (i:=p - k) (p:=p) (b:=b) (by omega) hkp
        simp [a2,a3] at hk
      · have:p - k = p:=by omega
        rw [this] at hk
        simp [h3] at hk
    · have QL:jE b (rG b [] 0 p) p = (0,0):=by unfold jE;rw [if_neg h3]
      rw [QL]
      right
      refine ⟨?_,by simp⟩
      have h:=fold_filter (b:=b) (p:=p) (fun _=>false) (fun k _=>?_) (List.range' 1 p) (0,0) (0,0) (.inl rfl)
      · rcases h with h | h
        · rw [h,show (List.range' 1 p).filter (fun _=>false) = [] by simp]
          simp
        · exact h.1
      · have:=wu b (p - k) p 258 0 (by omega)
        omega
  unfold sS jl
  rcases key with h | ⟨h1,h2⟩
  · rw [h]
  · rw [if_neg (by omega),if_neg (by omega)]
theorem Fh {b:List UInt8} (hb:b.length≤32768):∀ (f p:Nat),p≤b.length→sU b f p = nU b f (rG b [] 0 p) p
  | 0,_,_=>rfl
  | f + 1,p,hp=>by
    unfold sU nU
    by_cases hlt:p < b.length
    · rw [if_pos hlt,if_pos hlt,QK hlt hb]
      have hu:=TL b [] 0 p (max 1 (jl b (rG b [] 0 p) p).len)
      rw [Nat.zero_add] at hu
      rw [hu,Fh hb f _ (zi hlt)]
    · rw [if_neg hlt,if_neg hlt]
end Go.Proofs.Yteblpjhkgdpchaa
namespace Go.Proofs.Yteblpjhkgdpchaa
open Go.AM
theorem QM {a b:List UInt8} (hl:a.length = b.length) (h:∀ i,i < 8 * a.length→mV a i = mV b i):a = b:=by
  refine List.ext_getElem hl fun j h1 h2=>?_
  refine UInt8.toNat_inj.1 ?_
  have hb:∀ k,k < 8→a[j].toNat / 2 ^ k % 2 = b[j].toNat / 2 ^ k % 2:=by
    intro k hk
    have:=h (8 * j + k) (by omega)
    unfold mV at this
    rw [show (8 * j + k) / 8 = j by omega,show (8 * j + k) % 8 = k by omega,List.getD_eq_getElem?_getD,List.getD_eq_getElem?_getD,List.getElem?_eq_getElem h1,List.getElem?_eq_getElem h2] at this
    simp only [Option.getD_some] at this
    omega
  have h0:=hb 0 (by omega);have h1':=hb 1 (by omega);have h2':=hb 2 (by omega);have h3:=hb 3 (by omega)
  have h4:=hb 4 (by omega);have h5:=hb 5 (by omega);have h6:=hb 6 (by omega);have h7:=hb 7 (by omega)
  have:=a[j].toNat_lt;have:=b[j].toNat_lt
  simp only [Nat.pow_zero,Nat.div_one,Nat.reducePow] at h0 h1' h2' h3 h4 h5 h6 h7
  omega
def wG (L:Nat):List UInt8:=[1,UInt8.ofNat L,UInt8.ofNat (L / 256),UInt8.ofNat (65535 - L),UInt8.ofNat ((65535 - L) / 256)]
theorem Oz {b:List UInt8} (hb:b.length≤65535):(xJ b).o = wG b.length:=by
  obtain ⟨w1,w2,w3⟩:=KO (b:=b)
  have hs:xJ b = cu (cu ⟨8,[1]⟩ (b.length:Nat) 16) (-(b.length:Int) - 1) 16:=by unfold xJ;rw [f13]
  obtain ⟨a1,b1,c1⟩:=qU (x:=(b.length:Nat)) Gd.one 16
  obtain ⟨a2,b2,c2⟩:=qU (x:=-(b.length:Int) - 1) a1 16
  have k1:=(bT (x:=(b.length:Nat)) Gd.one.ok 16).2
  refine QM (by rw [w3];rfl) fun i hi=>?_
  rw [w3] at hi
  rw [hs]
  have hL2:((65535 - b.length:Nat):Int) = 65535 - (b.length:Int):=by omega
  by_cases h8:i < 8
  · rw [b2.at' i (by rw [k1];show i < 8 + 16;omega),b1.at' i h8]
    unfold mV wG
    rw [show i / 8 = 0 by omega]
    rfl
  · by_cases h24:i < 24
    · have:=c1 (i - 8) (by omega)
      rw [show (⟨8,[1]⟩:Ws).k + (i - 8) = i by show 8 + (i - 8) = i;omega] at this
      rw [b2.at' i (by rw [k1];show i < 8 + 16;omega),this]
      have e:((b.length:Nat):Int) / 2 ^ (i - 8) % 2 = ((b.length / 2 ^ (i - 8) % 2:Nat):Int):=by push_cast;rfl
      rw [e]
      unfold mV wG
      congr 1
      by_cases h16:i < 16
      · rw [show i / 8 = 1 by omega,show i % 8 = i - 8 by omega]
        simp only [List.getD_cons_succ,List.getD_cons_zero,UInt8.toNat_ofNat']
        generalize b.length = L at *
        have:i - 8 < 8:=by omega
        generalize i - 8 = k at *
        match k,this with
        | 0,_ | 1,_ | 2,_ | 3,_ | 4,_ | 5,_ | 6,_ | 7,_=>simp only [Nat.pow_zero,Nat.div_one,Nat.reducePow];omega
      · rw [show i / 8 = 2 by omega,show i - 8 = 8 + i % 8 by omega]
        simp only [List.getD_cons_succ,List.getD_cons_zero,UInt8.toNat_ofNat']
        generalize b.length = L at *
        have:i % 8 < 8:=by omega
        generalize i % 8 = k at *
        match k,this with
        | 0,_ | 1,_ | 2,_ | 3,_ | 4,_ | 5,_ | 6,_ | 7,_=>simp only [Nat.pow_zero,Nat.div_one,Nat.reducePow,Nat.reduceAdd];omega
    · have:=c2 (i - 24) (by omega)
      rw [k1,show (⟨8,[1]⟩:Ws).k + 16 + (i - 24) = i by show 8 + 16 + (i - 24) = i;omega] at this
      rw [this]
      have e:(-(b.length:Int) - 1) / 2 ^ (i - 24) % 2 = (((65535 - b.length) / 2 ^ (i - 24) % 2:Nat):Int):=by
        have hk:i - 24 < 16:=by omega
        generalize b.length = L at *
        generalize i - 24 = k at *
        match k,hk with
        | 0,_ | 1,_ | 2,_ | 3,_ | 4,_ | 5,_ | 6,_ | 7,_ | 8,_ | 9,_ | 10,_ | 11,_ | 12,_ | 13,_ | 14,_ | 15,_=>simp only [Nat.pow_zero,Nat.div_one,Nat.reducePow,Int.reducePow,Int.pow_zero,Int.ediv_one];omega
        | k + 16,h=>exact absurd h (by omega)
      rw [e]
      unfold mV wG
      congr 1
      by_cases h32:i < 32
      · rw [show i / 8 = 3 by omega,show i % 8 = i - 24 by omega]
        simp only [List.getD_cons_succ,List.getD_cons_zero,UInt8.toNat_ofNat']
        generalize 65535 - b.length = L at *
        have:i - 24 < 8:=by omega
        generalize i - 24 = k at *
        match k,this with
        | 0,_ | 1,_ | 2,_ | 3,_ | 4,_ | 5,_ | 6,_ | 7,_=>simp only [Nat.pow_zero,Nat.div_one,Nat.reducePow];omega
      · rw [show i / 8 = 4 by omega,show i - 24 = 8 + i % 8 by omega]
        simp only [List.getD_cons_succ,List.getD_cons_zero,UInt8.toNat_ofNat']
        generalize 65535 - b.length = L at *
        have:i % 8 < 8:=by omega
        generalize i % 8 = k at *
        match k,this with
        | 0,_ | 1,_ | 2,_ | 3,_ | 4,_ | 5,_ | 6,_ | 7,_=>simp only [Nat.pow_zero,Nat.div_one,Nat.reducePow,Nat.reduceAdd];omega
theorem JE {b:List UInt8} (hb:b.length≤65535):gV b = wG b.length ++ b:=by
  unfold gV
  rw [Oz hb]
end Go.Proofs.Yteblpjhkgdpchaa
namespace Go.Proofs.Yteblpjhkgdpchaa
open Go.AM
theorem Vw (H:AM.Heap) (L:Nat):dL X H 28 5 [(0,.int .u8 1),(1,.int .u8 (UInt8.ofNat L).toNat),(2,.int .u8 (UInt8.ofNat (L / 256)).toNat),(3,.int .u8 (UInt8.ofNat (65535 - L)).toNat),(4,.int .u8 (UInt8.ofNat ((65535 - L) / 256)).toNat)] = some (.ro 1 (.pb (wG L)) 0,H):=by
  unfold wG
  generalize UInt8.ofNat L = x0
  generalize UInt8.ofNat (L / 256) = x1
  generalize UInt8.ofNat (65535 - L) = x2
  generalize UInt8.ofNat ((65535 - L) / 256) = x3
  have h0:(x0.toNat:Int) < 256:=by have:=x0.toNat_lt;omega
  have h1:(x1.toNat:Int) < 256:=by have:=x1.toNat_lt;omega
  have h2:(x2.toNat:Int) < 256:=by have:=x2.toNat_lt;omega
  have h3:(x3.toNat:Int) < 256:=by have:=x3.toNat_lt;omega
  simp [dL,kF,uK,mkRow,jT,eF,cellsOf,scalars,scalar,aT,ids,bW,tags,fK,h0,h1,h2,h3]
theorem DK (n:Int) (s:Nat) (h:n % 256 = ((s % 256:Nat):Int)):IntKind.u8.wrap n = (UInt8.ofNat s).toNat:=by
  rw [UInt8.toNat_ofNat']
  show n % 256 = ((s % 256:Nat):Int)
  exact h
def kL:AM.Obj:=⟨.pb [],0,none,0,true,false,0⟩
theorem Nc:rowOf (dB X 5) none 0 = kL:=by simp [dB,rowOf,kL]
section
variable {c:Nat} {b:List UInt8}
def Aa (c:Nat) (b:List UInt8) (v:AV) (p n l:Int):AM.Frame:=[(0,.ro c (.pb b) 1),(3,v),(4,.int .i64 p),(5,.int .i64 n),(6,.int .u8 l)]
theorem XF {m:Nat} {E E':AM.Heap} {v:AV} {N g:Nat} (hb:b.length≤65535) (hA:dV X E 28 v (.ro 1 (.pb (wG b.length)) 0) = some (.sl 1 0 N g,E')):∃ code,((Try.f18.body).bind (aS [1,1,0,1,0,0,1,0,1,1,1,0])) = some code∧Run X (evT X) 18 m code (Aa c b v 0 (b.length:Nat) 1) E ⟨.normal,Aa c b (.sl 1 0 N g) 0 (b.length:Nat) 1,E'⟩:=by
  refine ⟨_,rfl,?_⟩
  have hbs:=Vw E b.length
  have wn:=Xa hb
  have a1:=DK ((b.length:Nat):Int) b.length (by omega)
  have a2:=DK (((b.length / 256:Nat):Nat):Int) (b.length / 256) (by omega)
  have a3:=DK (-(b.length:Int) - 1) (65535 - b.length) (by omega)
  have a4:=DK ((-(b.length:Int) - 1).fdiv 256) ((65535 - b.length) / 256) (by rw [Int.fdiv_eq_ediv_of_nonneg _ (by omega)];omega)
  have a4':=DK ((-(b.length:Int) - 1) / 256) ((65535 - b.length) / 256) (by omega)
  have f1:((b.length:Nat):Int).fdiv 256 = ((b.length / 256:Nat):Int):=by rw [Int.fdiv_eq_ediv_of_nonneg _ (by omega)];omega
  have f1':((b.length:Nat):Int) / 256 = ((b.length / 256:Nat):Int):=by omega
  have wx:IntKind.i64.wrap (-1 - (b.length:Int)) = -(b.length:Int) - 1:=by rw [wrap_i64 (by omega) (by omega)];omega
  simp only [Aa]
  generalize (UInt8.ofNat ((65535 - b.length) / 256)).toNat = y4 at *
  generalize (UInt8.ofNat (65535 - b.length)).toNat = y3 at *
  generalize (UInt8.ofNat (b.length / 256)).toNat = y2 at *
  generalize (UInt8.ofNat b.length).toNat = y1 at *
  generalize b.length / 256 = L2 at *
  generalize wG b.length = q at *
  generalize b.length = L at *
  simp only [go_sem] at wn
  (refine ⟨0,?_⟩;simp (maxSteps:=2000000) -implicitDefEqProofs [-getElem?_pos,go_sem,eqV,aj,a1,a2,a3,a4,a4',f1,f1',wn,wx,hbs,hA,aC])
theorem G6 {m:Nat} (hb:b.length≤65535):∃ code,Try.f18.body = some code∧au (nY fun fr E=>∃ a g ob,aI fr 2 = .sl a 0 (gV b).length g∧E[a]? = some (some ob)∧Rw (.pb (gV b)) g ob) X (evT X) 18 m code [(0,.ro c (.pb b) 1)] []:=by
  refine ⟨_,rfl,?_⟩
  obtain ⟨ob1,w1,hA⟩:=zq (C:=X) (T:=28) (e:=5) (H:=[some kL,some kL]) (o:=1) (g:=0) (ob:=kL) (l:=[]) (m:=wG b.length) (src:=.ro 1 (.pb (wG b.length)) 0) uf BA ug bytes5 BD rfl ⟨rfl,rfl,rfl,rfl,rfl⟩ (.inl (by simp [kD,oM,qO])) (by simp [wG])
  rw [List.nil_append] at w1
  simp only [List.length_nil,Nat.zero_add] at hA w1
  obtain ⟨ob2,w2,hB⟩:=zq (C:=X) (T:=28) (e:=5) (H:=[some kL,some ob1]) (o:=1) (g:=1) (ob:=ob1) (l:=wG b.length) (m:=b) (src:=.ro (if c = 0 then 0 else 2) (.pb b) 1) uf BA ug bytes5 BD rfl w1 (.inl (by simp [kD,oM,qO])) (by simp [wG];omega)
  rw [← JE hb] at w2
  have hsl:(wG b.length).length + b.length = (gV b).length:=by rw [JE hb,List.length_append]
  rw [hsl] at hB
  have hu:AM.upd [some kL,some kL] 1 (some ob1) = [some kL,some ob1]:=rfl
  rw [hu] at hA
  apply au.seq (fr':=[(0,.ro c (.pb b) 1)]) (H':=[some kL])
  · (refine ⟨0,?_⟩;simp (maxSteps:=2000000) -implicitDefEqProofs [-getElem?_pos,go_sem,eqV,aj,aC,Nc])
  apply au.seq (fr':=[(0,.ro c (.pb b) 1),(3,.sl 1 0 0 0)]) (H':=[some kL,some kL])
  · (refine ⟨0,?_⟩;simp (maxSteps:=2000000) -implicitDefEqProofs [-getElem?_pos,go_sem,eqV,aj,aC,Nc])
  apply au.assoc
  apply au.seq (fr':=[(0,.ro c (.pb b) 1),(3,.sl 1 0 0 0),(4,.int .i64 0)]) (H':=[some kL,some kL])
  · (refine ⟨0,?_⟩;simp (maxSteps:=2000000) -implicitDefEqProofs [-getElem?_pos,go_sem,eqV,aj])
  refine au.Vr ?_ (fun o ho=>by rw [ho.1];simp)
  refine au.blk ?_ (fun o ho=>by rw [ho.1];simp)
  refine au.lJ (I:=fun k fr E=>k = 0∧fr = [(0,.ro c (.pb b) 1),(3,.sl 1 0 0 0),(4,.int .i64 0)]∧E = [some kL,some kL]) ?_ (k:=0) ⟨rfl,rfl,rfl⟩
  rintro k fr E ⟨rfl,rfl,rfl⟩
  suffices hT:au (nY fun fr E=>∃ a g ob,aI fr 2 = .sl a 0 (gV b).length g∧E[a]? = some (some ob)∧Rw (.pb (gV b)) g ob) X (evT X) 18 m _ [(0,.ro c (.pb b) 1),(3,.sl 1 0 0 0),(4,.int .i64 0)] [some kL,some kL] from hT.mono fun o ho=>.inr ⟨by rw [ho.1];simp,ho⟩
  apply au.assoc
  apply au.seq (fr':=[(0,.ro c (.pb b) 1),(3,.sl 1 0 0 0),(4,.int .i64 0),(14,.bool true)]) (H':=[some kL,some kL])
  · (refine ⟨0,?_⟩;simp (maxSteps:=2000000) -implicitDefEqProofs [-getElem?_pos,go_sem,eqV,aj])
  apply au.seq (fr':=[(0,.ro c (.pb b) 1),(3,.sl 1 0 0 0),(4,.int .i64 0),(14,.bool true)]) (H':=[some kL,some kL])
  · exact Run.cond (d:=true) (by simp [aK,aI]) ⟨0,rfl⟩
  refine au.blk ?_ (fun o ho=>by rw [ho.1];simp)
  have hI2:¬ (b.length:Int) > 65535:=by omega
  apply au.seq (fr':=[(0,.ro c (.pb b) 1),(3,.sl 1 0 0 0),(4,.int .i64 0),(5,.int .i64 (b.length:Nat))]) (H':=[some kL,some kL])
  · have wl:IntKind.i64.wrap (b.length:Int) = (b.length:Int):=wrap_i64 (by omega) (by omega)
    have hmm:lN false (.int .i64 65535) [.int .i64 (b.length:Nat)] = some (.int .i64 (b.length:Nat)):=by
      by_cases h:(b.length:Int) < 65535
      · simp only [lN,h,if_true];simp
      · have:(b.length:Int) = 65535:=by omega
        simp [lN,this]
    generalize hL:b.length = L at *
    (refine ⟨0,?_⟩;simp (maxSteps:=2000000) -implicitDefEqProofs [-getElem?_pos,go_sem,eqV,aj,hL,wl,hmm])
  apply au.seq (fr':=Aa c b (.sl 1 0 0 0) 0 (b.length:Nat) 0) (H':=[some kL,some kL])
  · simp only [Aa]
    generalize hL:b.length = L at *
    (refine ⟨0,?_⟩;simp (maxSteps:=2000000) -implicitDefEqProofs [-getElem?_pos,go_sem,eqV,aj,hL])
  apply au.assoc
  apply au.seq (fr':=Aa c b (.sl 1 0 0 0) 0 (b.length:Nat) 0 ++ [(25,.bool true)]) (H':=[some kL,some kL])
  · have wl:IntKind.i64.wrap (b.length:Int) = (b.length:Int):=wrap_i64 (by omega) (by omega)
    simp only [Aa]
    generalize hL:b.length = L at *
    (refine ⟨0,?_⟩;simp (maxSteps:=2000000) -implicitDefEqProofs [-getElem?_pos,go_sem,eqV,aj,hL,wl])
  apply au.seq (fr':=Aa c b (.sl 1 0 0 0) 0 (b.length:Nat) 1) (H':=[some kL,some kL])
  · refine Run.cond (d:=true) (by simp [Aa,aK,aI]) ?_
    simp only [Aa]
    generalize hL:b.length = L at *
    (refine ⟨0,?_⟩;simp (maxSteps:=2000000) -implicitDefEqProofs [-getElem?_pos,go_sem,eqV,aj,hL])
  apply au.seq (piece (XF (m:=m) (c:=c) (b:=b) hb hA) _ rfl)
  apply au.seq (fr':=Aa c b (.sl 1 0 (gV b).length 2) 0 (b.length:Nat) 1) (H':=AM.upd [some kL,some ob1] 1 (some ob2))
  · have wl:IntKind.i64.wrap (b.length:Int) = (b.length:Int):=wrap_i64 (by omega) (by omega)
    have ht:b.take b.length = b:=List.take_length
    have hz:jo (.pb b) 0 b.length = some (.pb b):=by simp [jo]
    simp only [Aa]
    generalize (wG b.length).length = N1 at *
    generalize (gV b).length = N2 at *
    generalize hL:b.length = L at *
    (refine ⟨0,?_⟩;simp (maxSteps:=2000000) -implicitDefEqProofs [-getElem?_pos,go_sem,eqV,aj,hL,wl,kC,bound,hz,ht,hB,aC])
  generalize hE:AM.upd [some kL,some ob1] 1 (some ob2) = E2
  have hE1:E2[1]? = some (some ob2):=by rw [← hE];rfl
  apply au.seq (fr':=[(0,.ro c (.pb b) 1),(3,.sl 1 0 (gV b).length 2),(4,.int .i64 (b.length:Nat)),(6,.int .u8 1)]) (H':=E2)
  · have wl:IntKind.i64.wrap (b.length:Int) = (b.length:Int):=wrap_i64 (by omega) (by omega)
    simp only [Aa]
    generalize (gV b).length = N2 at *
    generalize hL:b.length = L at *
    (refine ⟨0,?_⟩;simp (maxSteps:=2000000) -implicitDefEqProofs [-getElem?_pos,go_sem,eqV,aj,hL,wl])
  refine au.of (o:=⟨.ret,[(2,.sl 1 0 (gV b).length 2)],E2⟩) ?_ ⟨rfl,1,2,ob2,rfl,hE1,w2⟩
  refine ⟨0,?_⟩
  generalize (gV b).length = N2 at *
  generalize hL:b.length = L at *
  simp (maxSteps:=2000000) -implicitDefEqProofs [-getElem?_pos,go_sem,eqV,aj,hL,aC]
theorem DL {H:AM.Heap} {a:AV} (ha:iD H a = some (.pb b)) (hb:b.length≤65535):∃ ob,Rw (.pb (gV b)) 0 ob∧evT X 18 [a] H = some (.sl H.length 0 (gV b).length 0,H ++ [some ob]):=by
  obtain ⟨c,x,hx⟩:=fJ (C:=X) (f:=18) (i:=0) rfl ha (dQ 1)
  obtain ⟨code,hc,⟨out,⟨ho,a2,g,ob,h2,h4,hw⟩,hrun⟩⟩:=G6 (m:=0) (c:=c) hb
  obtain ⟨ob',q1,q2⟩:=Ev1.Fq (C:=X) (H:=H) (bJ X) (n:=(gV b).length) (l:=gV b) (rest:=[]) Try.func18 hc hx rfl (by simp [dJ]) rfl rfl rfl (by
    rw [WL]
    refine ⟨out,⟨ho,a2,g,ob,?_,h4,hw⟩,hrun⟩
    show bf X out.fr out.H [.tmp 2] = _
    simp [bf,h2])
  exact ⟨ob',q1,eH q2⟩
end
end Go.Proofs.Yteblpjhkgdpchaa
namespace Go.Proofs.Yteblpjhkgdpchaa
open Go.AM
section
variable {c:Nat} {b:List UInt8}
theorem Nh {b:List UInt8} (hb:b.length≤1400):sU b b.length 0 = nU b b.length [] 0:=by
  rw [Fh (by omega) b.length 0 (by omega)]
  rfl
theorem Ee {m:Nat} (hb:b.length≤1400):∃ code,Try.f19.body = some code∧au (nY fun fr E=>∃ a g ob,aI fr 2 = .sl a 0 (mJ b).length g∧E[a]? = some (some ob)∧Rw (.pb (mJ b)) g ob) X (evT X) 19 m code [(0,.ro c (.pb b) 1)] []:=by
  refine ⟨_,rfl,?_⟩
  apply au.seq (fr':=[(0,.ro c (.pb b) 1)]) (H':=[some (⟨.pb [],0,none,0,true,false,0⟩:AM.Obj)])
  · (refine ⟨0,?_⟩;simp (maxSteps:=2000000) -implicitDefEqProofs [-getElem?_pos,go_sem,eqV,aj,aC,rowOf,UL])
  obtain ⟨ob1,w1,e1⟩:=DF (H:=[some (⟨.pb [],0,none,0,true,false,0⟩:AM.Obj)]) (a:=.ro c (.pb b) 1) (b:=b) rfl hb
  rw [Nh hb] at w1 e1
  have hlen:=y5 b b.length [] 0
  obtain ⟨ob2,w2,e2⟩:=Oi (H:=[some (⟨.pb [],0,none,0,true,false,0⟩:AM.Obj),some ob1]) (a:=.sl 1 0 (nU b b.length [] 0).length 0) (l:=kK b) (by
    unfold kK
    rw [P9]
    have:=Gw (H:=[some (⟨.pb [],0,none,0,true,false,0⟩:AM.Obj),some ob1]) (o:=1) rfl w1
    rwa [List.length_map] at this) (by unfold kK;rw [List.length_map];omega)
  obtain ⟨ob3,w3,e3⟩:=DL (H:=[some (⟨.pb [],0,none,0,true,false,0⟩:AM.Obj),some ob1,some ob2]) (a:=.ro c (.pb b) 1) (b:=b) rfl (by omega)
  simp only [List.length_cons,List.length_nil,List.cons_append,List.nil_append] at e1 e2 e3
  unfold mJ
  have g2:=w2.g;have g3:=w3.g
  generalize hr0:some (⟨.pb [],0,none,0,true,false,0⟩:AM.Obj) = r0 at *
  apply au.seq (fr':=[(0,.ro c (.pb b) 1),(3,.sl 2 0 (iT (kK b)).1.length 0)]) (H':=[r0,some ob1,some ob2])
  · generalize (nU b b.length [] 0).length = N1 at *
    generalize (iT (kK b)).1.length = N2 at *
    generalize (iT (kK b)).2 = er at *
    (refine ⟨0,?_⟩;simp (maxSteps:=2000000) -implicitDefEqProofs [-getElem?_pos,go_sem,eqV,aj,e1,e2,aC])
  apply au.seq (fr':=[(3,.sl 2 0 (iT (kK b)).1.length 0),(5,.sl 3 0 (gV b).length 0)]) (H':=[r0,some ob1,some ob2,some ob3])
  · generalize (iT (kK b)).1.length = N2 at *
    generalize (gV b).length = N3 at *
    (refine ⟨0,?_⟩;simp (maxSteps:=2000000) -implicitDefEqProofs [-getElem?_pos,go_sem,eqV,aj,e3,aC])
  by_cases hlt:(gV b).length < (iT (kK b)).1.length
  · rw [if_pos hlt]
    have hI:¬ ((iT (kK b)).1.length:Int)≤((gV b).length:Int):=by omega
    have hN:¬ (iT (kK b)).1.length≤(gV b).length:=by omega
    refine au.of (o:=⟨.ret,[(2,.sl 3 0 (gV b).length 0)],[r0,some ob1,some ob2,some ob3]⟩) ?_ ⟨rfl,3,0,ob3,rfl,rfl,w3⟩
    generalize (iT (kK b)).1.length = N2 at *
    generalize (gV b).length = N3 at *
    refine ⟨0,?_⟩
    simp (maxSteps:=2000000) -implicitDefEqProofs [-getElem?_pos,go_sem,eqV,aj,g2,g3,hI,hN,aC]
  · rw [if_neg hlt]
    have hI:((iT (kK b)).1.length:Int)≤((gV b).length:Int):=by omega
    have hN:(iT (kK b)).1.length≤(gV b).length:=by omega
    refine au.of (o:=⟨.ret,[(2,.sl 2 0 (iT (kK b)).1.length 0)],[r0,some ob1,some ob2,some ob3]⟩) ?_ ⟨rfl,2,0,ob2,rfl,rfl,w2⟩
    generalize (iT (kK b)).1.length = N2 at *
    generalize (gV b).length = N3 at *
    refine ⟨0,?_⟩
    simp (maxSteps:=2000000) -implicitDefEqProofs [-getElem?_pos,go_sem,eqV,aj,g2,g3,hI,hN,aC]
theorem JF {H:AM.Heap} {a:AV} (ha:iD H a = some (.pb b)) (hb:b.length≤1400):∃ ob,Rw (.pb (mJ b)) 0 ob∧evT X 19 [a] H = some (.sl H.length 0 (mJ b).length 0,H ++ [some ob]):=by
  obtain ⟨c,x,hx⟩:=fJ (C:=X) (f:=19) (i:=0) rfl ha (dQ 1)
  obtain ⟨code,hc,⟨out,⟨ho,a2,g,ob,h2,h4,hw⟩,hrun⟩⟩:=Ee (m:=0) (c:=c) hb
  obtain ⟨ob',q1,q2⟩:=Ev1.Fq (C:=X) (H:=H) (bJ X) (n:=(mJ b).length) (l:=mJ b) (rest:=[]) Try.func19 hc hx rfl (by simp [dJ]) rfl rfl rfl (by
    rw [WM]
    refine ⟨out,⟨ho,a2,g,ob,?_,h4,hw⟩,hrun⟩
    show bf X out.fr out.H [.tmp 2] = _
    simp [bf,h2])
  exact ⟨ob',q1,eH q2⟩
theorem XG (x y z x' y' z':Int):oq X 6 25 [.int .i64 x,.int .i64 y,.int .u8 z] [.int .i64 x',.int .i64 y',.int .u8 z'] = some (x == x' && (y == y' && (z == z' && true))):=by kernel_rfl
theorem Vx:zU X 25 = true:=by kernel_rfl
theorem Vy:X.P.eqGuardType X.P.depth 25 = false:=by kernel_rfl
def OA (c c2:Nat) (L:List Pc) (i:Nat):AM.Frame:=[(0,.ro c (.pr 3 (L.map pcR)) 1),(1,.ro c2 (.pr 3 (L.map pcR)) 2),(5,.int .i64 (i:Nat))]
theorem Lr {m c c2:Nat} {L:List Pc} (hL:L.length≤100000):∃ code,Try.f9.body = some code ∧
    au (nY fun fr H=>bf X fr H Try.f9.results.toList = some [.bool true]) X (evT X) 9 m code [(0,.ro c (.pr 3 (L.map pcR)) 1),(1,.ro c2 (.pr 3 (L.map pcR)) 2)] []:=by
  refine ⟨_,rfl,?_⟩
  have hll:(L.map pcR).length = L.length:=by simp
  apply au.seq (fr':=[(0,.ro c (.pr 3 (L.map pcR)) 1),(1,.ro c2 (.pr 3 (L.map pcR)) 2)]) (H':=[])
  · generalize L.map pcR = R at *
    (refine ⟨0,?_⟩;simp (maxSteps:=2000000) -implicitDefEqProofs [-getElem?_pos,go_sem,eqV,aj])
  apply au.assoc
  apply au.seq (fr':=[(0,.ro c (.pr 3 (L.map pcR)) 1),(1,.ro c2 (.pr 3 (L.map pcR)) 2),(10,.bool false)]) (H':=[])
  · generalize L.map pcR = R at *
    generalize L.length = N at *
    (refine ⟨0,?_⟩;simp (maxSteps:=2000000) -implicitDefEqProofs [-getElem?_pos,go_sem,eqV,aj,hll])
  apply au.seq (fr':=[(0,.ro c (.pr 3 (L.map pcR)) 1),(1,.ro c2 (.pr 3 (L.map pcR)) 2),(10,.bool false)]) (H':=[])
  · exact Run.cond (d:=false) (by simp [aK,aI]) ⟨0,rfl⟩
  apply au.assoc
  apply au.seq (fr':=OA c c2 L 0) (H':=[])
  · simp only [OA]
    generalize L.map pcR = R at *
    (refine ⟨0,?_⟩;simp (maxSteps:=2000000) -implicitDefEqProofs [-getElem?_pos,go_sem,eqV,aj])
  apply au.andThen (P:=fun fr H=>H = [])
  · apply au.block
    refine au.loop (σ:=Nat) (fun i=>i≤L.length) (fun i=>OA c c2 L i) (fun _=>[]) (fun i=>L.length - i) ?_ 0 (by omega)
    intro i hi
    by_cases hie:i = L.length
    · right
      have hI:¬ (i:Int) < (L.length:Int):=by omega
      have hN:¬ i < L.length:=by omega
      refine ⟨⟨.exit 0,OA c c2 L i ++ [(14,.bool false)],[]⟩,⟨rfl,rfl⟩,by simp,?_⟩
      refine ⟨0,?_⟩
      simp only [OA]
      generalize L.map pcR = R at *
      generalize L.length = N at *
      simp (maxSteps:=2000000) -implicitDefEqProofs [-getElem?_pos,go_sem,eqV,aj,hll,hI,hN]
    · left
      have hlt:i < L.length:=by omega
      have jB:(i:Int) < (L.length:Int):=by omega
      obtain ⟨x,hx⟩:∃ x,L[i]? = some x:=⟨_,List.getElem?_eq_getElem hlt⟩
      have hx':(L.map pcR)[i]? = some (pcR x):=by rw [List.getElem?_map,hx];rfl
      have w1:IntKind.i64.wrap ((i:Int) + 1) = ((i + 1:Nat):Int):=by rw [wrap_i64 (by omega) (by omega)];omega
      refine ⟨i + 1,by omega,?_,by omega⟩
      generalize i + 1 = i1 at *
      simp only [OA,pcR] at hx' ⊢
      have hfl:oq X 6 25 [.int .i64 (x.len:Nat),.int .i64 (x.dist:Nat),.int .u8 (x.byte.toNat:Nat)] [.int .i64 (x.len:Nat),.int .i64 (x.dist:Nat),.int .u8 (x.byte.toNat:Nat)] = some true:=by rw [XG];simp
      generalize L.map pcR = R at *
      generalize L.length = N at *
      (refine ⟨0,?_⟩;simp (maxSteps:=2000000) -implicitDefEqProofs [-getElem?_pos,go_sem,eqV,aj,hll,hlt,jB,hx',hfl,Vx,Vy,w1,OD,jI,retag])
  rintro fr H rfl
  refine au.of (o:=⟨.ret,[(4,.bool true)],[]⟩) ?_ ⟨rfl,rfl⟩
  refine ⟨0,?_⟩
  simp (maxSteps:=2000000) -implicitDefEqProofs [-getElem?_pos,go_sem,eqV,aj]
theorem QN {H:AM.Heap} {a a2:AV} {L:List Pc} (h:iD H a = some (.pr 3 (L.map pcR))) (h2:iD H a2 = some (.pr 3 (L.map pcR))) (hL:L.length≤100000):evT X 9 [a,a2] H = some (.bool true,H):=by
  obtain ⟨c2,x2,hx2⟩:=fJ (C:=X) (f:=9) (i:=1) rfl h2 (dQ 2)
  obtain ⟨c,x,hx⟩:=fJ (C:=X) (f:=9) (i:=0) rfl h hx2
  obtain ⟨code,hcode,hr⟩:=Lr (m:=0) (c:=c) (c2:=c2) hL
  refine eH (Ev1.pR (l:=[.bool true]) (bJ X) Try.func9 hcode hx rfl (by simp [dJ]) rfl rfl rfl ?_)
  rw [abr]
  exact hr
end
end Go.Proofs.Yteblpjhkgdpchaa
namespace Go.Proofs.Yteblpjhkgdpchaa
open Go.AM
theorem XH:mJ [97,97,97,97,97,97,97] = [75,132,0,0]:=by kernel_rfl
theorem XI:gV [97,98] = [1,2,0,253,255,97,98]:=by kernel_rfl
theorem Ls (c c2:Nat) (a b:List UInt8):∃ code,Try.f11.body = some code ∧
  Run X (evT X) 11 0 code [(0,.ro c (.pb a) 1),(1,.ro c2 (.pb b) 2)] [] ⟨.ret,[(4,.bool (a == b))],[]⟩:=by
 refine ⟨_,rfl,0,?_⟩
 simp (maxSteps:=2000000) -implicitDefEqProofs [-getElem?_pos,go_sem,eqV,aj,qE,Mc]
theorem coD {p:AV} {b:List UInt8} {c t:Nat} {r:List AV} {ts:List TypeId} (hp:PB p b):coerce X (.ro c p t :: r) (28 :: ts) = .ro c (.pb b) t :: coerce X r ts:=by
 rcases hp with rfl | ⟨rfl,rfl⟩
 ·simp [coerce]
 ·simp [coerce,dB]
theorem vC {H:AM.Heap} {a a2:AV} {l m:List UInt8} (h:Byt H a l) (h2:Byt H a2 m):evT X 11 [a,a2] H = some (.bool (l == m),H):=by
 obtain ⟨c2,p2,x2,hp2,_,hx2⟩:=Dz (C:=X) (f:=11) (i:=1) rfl h2 (dQ 2)
 obtain ⟨c,p,x,hp,_,hx⟩:=Dz (C:=X) (f:=11) (i:=0) rfl h hx2
 obtain ⟨code,hcode,hr⟩:=Ls c c2 l m
 refine eH (Ev1.pR (l:=[.bool (l == m)]) (bJ X) Try.func11 hcode hx (by simp [aT,ids,hp.ids,hp2.ids]) (by simp [dJ]) rfl rfl rfl ?_)
 rw [WE,coD hp,coD hp2]
 exact ⟨_,⟨rfl,rfl⟩,hr⟩
theorem XJ (H:AM.Heap):dL X H 28 7 [(0,.int .u8 97),(1,.int .u8 97),(2,.int .u8 97),(3,.int .u8 97),(4,.int .u8 97),(5,.int .u8 97),(6,.int .u8 97)] = some (.ro 1 (.pb [97,97,97,97,97,97,97]) 0,H):=by kernel_rfl
theorem XK (H:AM.Heap):dL X H 28 4 [(0,.int .u8 75),(1,.int .u8 132),(2,.int .u8 0),(3,.int .u8 0)] = some (.ro 1 (.pb [75,132,0,0]) 0,H):=by kernel_rfl
theorem XL (H:AM.Heap):dL X H 28 2 [(0,.int .u8 97),(1,.int .u8 98)] = some (.ro 1 (.pb [97,98]) 0,H):=by kernel_rfl
theorem XM (H:AM.Heap):dL X H 28 7 [(0,.int .u8 1),(1,.int .u8 2),(2,.int .u8 0),(3,.int .u8 253),(4,.int .u8 255),(5,.int .u8 97),(6,.int .u8 98)] = some (.ro 1 (.pb [1,2,0,253,255,97,98]) 0,H):=by kernel_rfl
theorem Lu:∃ code,Try.f15.body = some code∧au (nY fun fr H=>bf X fr H Try.f15.results.toList = some [.bool true]) X (evT X) 15 0 code [] []:=by
 refine ⟨_,rfl,?_⟩
 apply au.seq (fr':=[]) (H':=[])
 ·(refine ⟨0,?_⟩;simp (maxSteps:=2000000) -implicitDefEqProofs [-getElem?_pos,go_sem,eqV,aj])
 obtain ⟨ob1,w1,e1⟩:=Dq (H:=[]) (a:=.ro 1 (.pb [97,97,97,97,97,97,97]) 0) (b:=[97,97,97,97,97,97,97]) rfl (by simp)
 rw [XH] at w1 e1
 have s1:=vC (H:=[some ob1]) (a:=.sl 0 0 4 0) (a2:=.ro 1 (.pb [75,132,0,0]) 0) (Byt.whole (l:=[75,132,0,0]) rfl w1) (Byt.ro (.inl rfl) (fun h=>by omega))
 obtain ⟨ob2,w2,e2⟩:=xK (H:=[some ob1]) (a:=.ro 1 (.pb [97,98]) 0) (b:=[97,98]) rfl (by simp)
 rw [XI] at w2 e2
 have s2:=vC (H:=[some ob1,some ob2]) (a:=.sl 1 0 7 0) (a2:=.ro 1 (.pb [1,2,0,253,255,97,98]) 0) (Byt.whole (l:=[1,2,0,253,255,97,98]) rfl w2) (Byt.ro (.inl rfl) (fun h=>by omega))
 rw [beq_self_eq_true] at s1 s2
 simp only [List.length_cons,List.length_nil,List.nil_append,List.cons_append] at e1 e2
 refine au.of (o:=⟨.ret,[(0,.bool true)],[some ob1,some ob2]⟩) ?_ ⟨rfl,rfl⟩
 refine ⟨0,?_⟩
 simp (maxSteps:=2000000) -implicitDefEqProofs [-getElem?_pos,go_sem,eqV,aj,XJ,XK,XL,XM,e1,e2,s1,s2,aC]
theorem QO (H:AM.Heap):evT X 15 [] H = some (.bool true,H):=by
 obtain ⟨code,hc,ht⟩:=Lu
 exact eH (Ev1.pR (l:=[.bool true]) (bJ X) Try.func15 hc rfl rfl (by simp [dJ]) rfl rfl rfl ht)
end Go.Proofs.Yteblpjhkgdpchaa
namespace Go.Proofs.Yteblpjhkgdpchaa
open Go.AM
def vF:AM.Obj:=⟨.pb [],0,.none,0,true,false,0⟩
theorem emC:rowOf (dB X 5) .none 0 = vF:=by simp [dB,rowOf,vF]
theorem aeh {H:AM.Heap} {c t:Nat} {l:List UInt8}:kD H (.ro c (.pb l) t) = some (.pb l,0)∨(kD H (.ro c (.pb l) t) = some (.pn,0)∧l = []):=.inl (by simp [kD,oM,qO])
def e8:List UInt8:=[165,165,165,165,165,165,165,165]
theorem bs8 (H:AM.Heap):dL X H 28 8 [(0,.int .u8 165),(1,.int .u8 165),(2,.int .u8 165),(3,.int .u8 165),(4,.int .u8 165),(5,.int .u8 165),(6,.int .u8 165),(7,.int .u8 165)] = some (.ro 1 (.pb e8) 0,H):=by kernel_rfl
theorem mk0 {n:Nat} (hn:n≤1000000) (H:AM.Heap):fB X H 28 (.int .i64 0) (.int .i64 (n:Nat)) = some (.sl H.length 0 0 0,H ++ [some ⟨.pb [],0,some n,1,true,false,0⟩]):=by
  have hz:∀ n,jm X 5 n = some (.pb (List.replicate n 0)):=fun n=>by simp [jm,eF,scalars,scalar,aT,ids,bW,tags]
  have h0:(0:Int)≤n:=by omega
  have h1:(n:Int)≤9223372036854775807:=by omega
  have h2:(n:Int)≤140737488355328:=by omega
  simp [fB,hz,h0,h1,h2,rowOf]
theorem Vz {c n8:Nat} {b E:List UInt8} {ob0 ob1 ob2:AM.Obj} (w8:IntKind.i64.wrap ((b.length:Int) + 8) = (n8:Nat))
    (hM:fB X [some vF] 28 (.int .i64 0) (.int .i64 (n8:Nat)) = some (.sl 1 0 0 0,[some vF,some ob0]))
    (hA1:dV X [some vF,some ob0] 28 (.sl 1 0 0 0) (.ro c (.pb b) 1) = some (.sl 1 0 b.length 1,[some vF,some ob1]))
    (hb8:∀ H,dL X H 28 8 [(0,.int .u8 165),(1,.int .u8 165),(2,.int .u8 165),(3,.int .u8 165),(4,.int .u8 165),(5,.int .u8 165),(6,.int .u8 165),(7,.int .u8 165)] = some (.ro 1 (.pb E) 0,H))
    (hA2:dV X [some vF,some ob1] 28 (.sl 1 0 b.length 1) (.ro 1 (.pb E) 0) = some (.sl 1 0 n8 2,[some vF,some ob2]))
    (hS2:kC X [some vF,some ob2] 28 (.sl 1 0 n8 2) none (some (.int .i64 (b.length:Nat))) = some (.sl 1 0 b.length 2)) :
    ∃ code,((Try.f16.body).bind (aS [1,0])) = some code∧Run X (evT X) 16 0 code [(0,.ro c (.pb b) 1)] [some vF] ⟨.normal,[(2,.sl 1 0 b.length 2)],[some vF,some ob2]⟩:=by
  refine ⟨_,rfl,0,?_⟩
  simp (maxSteps:=2000000) -implicitDefEqProofs [-getElem?_pos,go_sem,eqV,aj,aC,w8,hM,hA1,hA2,hb8,hS2]
section
variable (c:Nat) (b:List UInt8)
theorem QT (hc:c = 0→b = []) (hb:b.length≤900000):∃ code,Try.f16.body = some code ∧
    au (nY fun fr H=>∃ o g ob,aI fr 2 = .sl o 0 b.length g∧H[o]? = some (some ob)∧Rw (.pb (b ++ e8)) g ob∧ob.cap = some (b.length + 8)) X (evT X) 16 0 code [(0,.ro c (.pb b) 1)] []:=by
  refine ⟨_,rfl,?_⟩
  have w8:IntKind.i64.wrap ((b.length:Int) + 8) = ((b.length + 8:Nat):Int):=by rw [wrap_i64 (by omega) (by omega)];omega
  have hM:=mk0 (n:=b.length + 8) (by omega) [some vF]
  have hw0:Rw (.pb []) 0 ⟨.pb [],0,some (b.length + 8),1,true,false,0⟩:=⟨rfl,rfl,rfl,rfl,rfl⟩
  obtain ⟨ob1,hw1,hk1,hA1⟩:=MZ (C:=X) (T:=28) (e:=5) (by simp) (BA) (by simp) (by simp) (by simp) (H:=[some vF,some ⟨.pb [],0,some (b.length + 8),1,true,false,0⟩]) (o:=1) (g:=0) (k:=b.length + 8) (l:=[]) (m:=b) (src:=.ro c (.pb b) 1) rfl hw0 rfl (by simp) (aeh) (by simp;omega)
  rw [List.nil_append] at hw1
  rw [List.length_nil,Nat.zero_add] at hA1
  obtain ⟨ob2,hw2,hk2,hA2⟩:=MZ (C:=X) (T:=28) (e:=5) (by simp) (BA) (by simp) (by simp) (by simp) (H:=[some vF,some ob1]) (o:=1) (g:=1) (k:=b.length + 8) (l:=b) (m:=e8) (src:=.ro 1 (.pb e8) 0) rfl hw1 hk1 (by simp [e8]) (.inl rfl) (by simp [e8];omega)
  have hPl:aj (.pb (b ++ e8)) = b.length + 8:=by simp [aj,e8]
  have hS2:kC X [some vF,some ob2] 28 (.sl 1 0 (b.length + 8) 2) none (some (.int .i64 (b.length:Nat))) = some (.sl 1 0 b.length 2):=by
    have hg:=hw2.g
    have hp:=hw2.p
    have hle:(b.length:Int)≤(b.length:Int) + 8:=by omega
    simp [kC,bound,live,hg,hp,hPl,aQ,hle]
  apply au.seq (fr':=[(0,.ro c (.pb b) 1)]) (H':=[some vF])
  · (refine ⟨0,?_⟩;simp (maxSteps:=2000000) -implicitDefEqProofs [-getElem?_pos,go_sem,eqV,aj,aC,emC])
  refine au.seq (piece (Vz w8 hM hA1 bs8 hA2 hS2) _ rfl) (au.of (o:=⟨.ret,[(2,.sl 1 0 b.length 2)],[some vF,some ob2]⟩) ⟨0,rfl⟩ ⟨rfl,1,2,ob2,rfl,rfl,hw2,hk2⟩)
structure OwnB (b:List UInt8) (ob:AM.Obj):Prop where
  rw:Rw (.pb (b ++ e8)) 0 ob
  cap:ob.cap = some (b.length + 8)
def JG (c t:Nat) (b:List UInt8) (i:Nat):AM.Frame:=[(5,.sl 0 b.length 8 0),(6,.int .i64 (i:Nat))]
theorem OB (ob:AM.Obj) (hp:ob.p = .pb (b ++ e8)) (hg:ob.g = 0) (hid:ob.ids = false) (hk:ob.cap = some (b.length + 8)) (hc:c = 0→b = []) (hb:b.length≤900000):∃ code,Try.f20.body = some code ∧
    au (nY fun fr H=>aI fr 4 = .bool true∧H = [some ob]) X (evT X) 20 1 code [(0,.sl 0 0 b.length 0),(1,.ro c (.pb b) 2)] [some ob]:=by
  refine ⟨_,rfl,?_⟩
  have w8:IntKind.i64.wrap ((b.length:Int) + 8) = (b.length:Int) + 8:=by rw [wrap_i64 (by omega) (by omega)]
  have hPl:aj (.pb (b ++ e8)) = b.length + 8:=by simp [aj,e8]
  have hS:=vC (H:=[some ob]) (a:=.sl 0 0 b.length 0) (a2:=.ro c (.pb b) 2) (Byt.part (l:=b) rfl hg hp hid (by simp) (by simp)) (Byt.ro (.inl rfl) hc)
  rw [beq_self_eq_true] at hS
  have hC:DW X [some ob] 28 (.sl 0 0 b.length 0) = some ((b.length:Int) + 8):=by simp [DW,live,hg,hk]
  have hS1:kC X [some ob] 28 (.sl 0 0 b.length 0) none (some (.int .i64 ((b.length:Int) + 8))) = some (.sl 0 0 (b.length + 8) 0):=by
    have h1:(0:Int)≤(b.length:Int) + 8:=by omega
    have h2:((b.length:Int) + 8).toNat = b.length + 8:=by omega
    simp [kC,bound,live,hg,hp,hPl,aQ,h1,h2]
  have hS2:kC X [some ob] 28 (.sl 0 0 (b.length + 8) 0) (some (.int .i64 (b.length:Nat))) none = some (.sl 0 b.length 8 0):=by
    have hle:(b.length:Int)≤(b.length:Int) + 8:=by omega
    simp [kC,bound,live,hg,hp,hPl,aQ,hle]
  apply au.seq (fr':=[(0,.sl 0 0 b.length 0),(1,.ro c (.pb b) 2)]) (H':=[some ob])
  · (refine ⟨0,?_⟩;simp (maxSteps:=2000000) -implicitDefEqProofs [-getElem?_pos,go_sem,eqV,aj])
  apply au.seq (fr':=[(0,.sl 0 0 b.length 0),(1,.ro c (.pb b) 2),(18,.bool false)]) (H':=[some ob])
  · (refine ⟨0,?_⟩;simp (maxSteps:=2000000) -implicitDefEqProofs [-getElem?_pos,go_sem,eqV,aj,hS,hC,w8])
  apply au.seq (fr':=[(5,.sl 0 b.length 8 0)]) (H':=[some ob])
  · (refine ⟨0,?_⟩;simp (maxSteps:=2000000) -implicitDefEqProofs [-getElem?_pos,go_sem,eqV,aj,hS1,hS2,w8])
  apply au.andThen (P:=fun fr H=>fr = JG c 2 b 8 ++ [(33,.bool false)]∧H = [some ob])
  · apply au.seq (fr':=JG c 2 b 0) (H':=[some ob])
    · (refine ⟨0,?_⟩;simp (maxSteps:=2000000) -implicitDefEqProofs [-getElem?_pos,go_sem,eqV,aj,JG])
    apply au.block
    refine au.loop (σ:=Nat) (fun i=>i≤8) (fun i=>JG c 2 b i) (fun _=>[some ob]) (fun i=>8 - i) ?_ 0 (by omega)
    intro i hi
    by_cases hi8:i = 8
    · right
      subst hi8
      refine ⟨⟨.exit 0,JG c 2 b 8 ++ [(33,.bool false)],[some ob]⟩,⟨rfl,rfl,rfl⟩,by simp,?_⟩
      (refine ⟨0,?_⟩;simp (maxSteps:=2000000) -implicitDefEqProofs [-getElem?_pos,go_sem,eqV,aj,JG,hg])
    · left
      have hiI:(i:Int) < 8:=by omega
      have w1:IntKind.i64.wrap ((i:Int) + 1) = ((i + 1:Nat):Int):=by rw [wrap_i64 (by omega) (by omega)];omega
      have hv:(b ++ e8)[b.length + i]? = some 165:=by
        rw [List.getElem?_append_right (by omega),show b.length + i - b.length = i by omega]
        match i,hi,hi8 with
        | 0,_,_ | 1,_,_ | 2,_,_ | 3,_,_ | 4,_,_ | 5,_,_ | 6,_,_ | 7,_,_=>rfl
        | 8,_,h=>exact absurd rfl h
        | i + 9,h,_=>omega
      refine ⟨i + 1,by omega,?_,by omega⟩
      have hin:i < 8:=by omega
      (refine ⟨0,?_⟩;simp (maxSteps:=2000000) -implicitDefEqProofs [-getElem?_pos,go_sem,eqV,aj,JG,hiI,hin,hg,hp,hid,hv,w1])
  · rintro fr H ⟨rfl,rfl⟩
    refine au.of (o:=⟨.ret,[(4,.bool true)],[some ob]⟩) ⟨0,?_⟩ ⟨rfl,rfl,rfl⟩
    simp (maxSteps:=2000000) -implicitDefEqProofs [-getElem?_pos,go_sem,eqV,aj,JG]
end
theorem VA {H:AM.Heap} {a:AV} {b:List UInt8} (h:Byt H a b) (hb:b.length≤900000):∃ ob,OwnB b ob∧evT X 16 [a] H = some (.sl H.length 0 b.length 0,H ++ [some ob]):=by
  obtain ⟨c,p,xl,hp,hc,hx⟩:=Dz (C:=X) (f:=16) (i:=0) rfl h (dQ 1)
  obtain ⟨code,hcode,hr⟩:=QT c b hc hb
  obtain ⟨ob,q1,q2,q3⟩:=Ev1.Xz (H:=H) (n:=b.length) (k:=some (b.length + 8)) (l:=b ++ e8) (rest:=[]) (bJ X) Try.func16 hcode hx (by simp [aT,ids,hp.ids]) (by simp [dJ]) rfl rfl rfl (by
    obtain ⟨o,⟨he,o1,g,ob,q1,q2,q3,q4⟩,hrun⟩:=hr
    exact ⟨o,⟨he,o1,g,ob,congrArg (fun v=>some [v]) q1,q2,q3,q4⟩,by rw [WI,coD hp];exact hrun⟩)
  exact ⟨ob,⟨q1,q2⟩,eH q3⟩
theorem S9 {H:AM.Heap} {o:Nat} {ob:AM.Obj} {b:List UInt8} {c t:Nat} (ho:H[o]? = some (some ob)) (h:OwnB b ob) (hc:c = 0→b = []) (hb:b.length≤900000) :
    evT X 20 [.sl o 0 b.length 0,.ro c (.pb b) t] H = some (.bool true,H):=by
  have hl:aO X 20 H 1 [.ro c (.pb b) t] = some ([.ro c (.pb b) 2],[⟨[],[t]⟩]):=by simp [aO,fU,eY]
  obtain ⟨code,hcode,⟨⟨ex,fr,H1⟩,⟨he,h4,hH⟩,hrun⟩⟩:=OB c b { ob with g:=0,tg:=3 } h.rw.p rfl h.rw.ids h.cap hc hb
  simp only at he h4 hH
  subst he hH
  exact eH (Ev1.rw1 (H:=H) (n:=3) (l:=[.bool true]) (rest:=[]) (bJ X) Try.func20 hcode rfl ho h.rw.g h.rw.ids (by rw [h.rw.p];rfl) h.rw.tg hl rfl rfl rfl (by simp [dJ])
    (by rw [WO];simpa [coerce,numbered] using hrun) (.inr rfl) (by show some [aI fr 4] = _;rw [h4]) rfl rfl rfl)
end Go.Proofs.Yteblpjhkgdpchaa
namespace Go.Proofs.Yteblpjhkgdpchaa
open Go.AM
theorem QU {H:AM.Heap} {o:Nat} {ob:AM.Obj} {b:List UInt8} (ho:H[o]? = some (some ob)) (h:OwnB b ob):iD H (.sl o 0 b.length 0) = some (.pb b):=by
  simp only [iD,live,ho,h.rw.g,if_true,h.rw.ids,h.rw.p,jo]
  simp
section
variable (c:Nat) (b:List UInt8)
theorem LD (hc:c = 0→b = []):∃ code,Try.f4.body = some code ∧
    au (nY fun fr H=>aI fr 2 = .bool true) X (evT X) 4 0 code [(0,.ro c (.pb b) 1)] []:=by
  refine ⟨_,rfl,?_⟩
  have hL:=QO []
  apply au.seq (fr':=[(0,.ro c (.pb b) 1)]) (H':=[])
  · (refine ⟨0,?_⟩;simp (maxSteps:=2000000) -implicitDefEqProofs [-getElem?_pos,go_sem,eqV,aj])
  apply au.assoc
  apply au.seq (fr':=[(0,.ro c (.pb b) 1),(5,.bool false)]) (H':=[])
  · (refine ⟨0,?_⟩;simp (maxSteps:=2000000) -implicitDefEqProofs [-getElem?_pos,go_sem,eqV,aj,hL])
  apply au.seq (fr':=[(0,.ro c (.pb b) 1),(5,.bool false)]) (H':=[])
  · exact Run.cond (d:=false) (by simp [aK,aI]) ⟨0,rfl⟩
  clear hL
  apply au.assoc
  by_cases h1:(1200:Int) < (b.length:Int)
  · apply au.seq (fr':=[(0,.ro c (.pb b) 1),(8,.bool true)]) (H':=[])
    · generalize hN:b.length = N at *
      (refine ⟨0,?_⟩;simp (maxSteps:=2000000) -implicitDefEqProofs [-getElem?_pos,go_sem,eqV,aj,h1,hN])
    refine au.of (o:=⟨.ret,[(2,.bool true)],[]⟩) ⟨0,?_⟩ ⟨rfl,rfl⟩
    simp (maxSteps:=2000000) -implicitDefEqProofs [-getElem?_pos,go_sem,eqV,aj]
  have hbl:b.length≤1200:=by omega
  apply au.seq (fr':=[(0,.ro c (.pb b) 1),(8,.bool false)]) (H':=[])
  · generalize hN:b.length = N at *
    (refine ⟨0,?_⟩;simp (maxSteps:=2000000) -implicitDefEqProofs [-getElem?_pos,go_sem,eqV,aj,h1,hN])
  apply au.seq (fr':=[(0,.ro c (.pb b) 1),(8,.bool false)]) (H':=[])
  · exact Run.cond (d:=false) (by simp [aK,aI]) ⟨0,rfl⟩
  obtain ⟨obO,hO,e0⟩:=VA (H:=[]) (a:=.ro c (.pb b) 1) (b:=b) (Byt.ro (.inl rfl) hc) (by omega)
  simp only [List.length_nil,List.nil_append] at e0
  have hp0:∀ R,iD (some obO :: R) (.sl 0 0 b.length 0) = some (.pb b):=fun R=>QU rfl hO
  obtain ⟨ob1,w1,e1⟩:=Ef (H:=[some obO]) (a:=.sl 0 0 b.length 0) (b:=b) (hp0 _) (by omega)
  obtain ⟨ob2,w2,e2⟩:=DF (H:=[some obO,some ob1]) (a:=.ro c (.pb b) 1) (b:=b) rfl (by omega)
  rw [Nh (by omega)] at w2 e2
  have hpl:=y5 b b.length [] 0
  have p1:=Gw (H:=[some obO,some ob1,some ob2]) (o:=1) rfl w1
  have p2:=Gw (H:=[some obO,some ob1,some ob2]) (o:=2) rfl w2
  rw [List.length_map] at p1 p2
  have e3:=QN p1 p2 (by omega)
  obtain ⟨ob3,w3,e4⟩:=xK (H:=[some obO,some ob1,some ob2]) (a:=.sl 0 0 b.length 0) (b:=b) (hp0 _) (by omega)
  obtain ⟨ob4,w4,e5⟩:=DL (H:=[some obO,some ob1,some ob2,some ob3]) (a:=.ro c (.pb b) 1) (b:=b) rfl (by omega)
  have e6:=vC (H:=[some obO,some ob1,some ob2,some ob3,some ob4]) (a:=.sl 3 0 (gV b).length 0) (a2:=.sl 4 0 (gV b).length 0) (Byt.whole rfl w3) (Byt.whole rfl w4)
  obtain ⟨ob5,w5,e7⟩:=Dq (H:=[some obO,some ob1,some ob2,some ob3,some ob4]) (a:=.sl 0 0 b.length 0) (b:=b) (hp0 _) (by omega)
  obtain ⟨ob6,w6,e8⟩:=JF (H:=[some obO,some ob1,some ob2,some ob3,some ob4,some ob5]) (a:=.ro c (.pb b) 1) (b:=b) rfl (by omega)
  have e9:=vC (H:=[some obO,some ob1,some ob2,some ob3,some ob4,some ob5,some ob6]) (a:=.sl 5 0 (mJ b).length 0) (a2:=.sl 6 0 (mJ b).length 0) (Byt.whole rfl w5) (Byt.whole rfl w6)
  have eK:=S9 (H:=[some obO,some ob1,some ob2,some ob3,some ob4,some ob5,some ob6]) (o:=0) (c:=c) (t:=1) rfl hO hc (by omega)
  rw [beq_self_eq_true] at e6 e9
  simp only [List.length_cons,List.length_nil,List.cons_append,List.nil_append] at e1 e2 e4 e5 e7 e8
  apply au.seq (fr':=[(0,.ro c (.pb b) 1),(3,.sl 0 0 b.length 0)]) (H':=[some obO])
  · generalize b.length = N at *
    (refine ⟨0,?_⟩;simp (maxSteps:=2000000) -implicitDefEqProofs [-getElem?_pos,go_sem,eqV,aj,e0,aC])
  clear e0 hp0 p1 p2 w1 w2 w3 w4 w5 w6
  refine au.of (o:=⟨.ret,[(2,.bool true)],[some obO,some ob1,some ob2,some ob3,some ob4,some ob5,some ob6]⟩) ?_ ⟨rfl,rfl⟩
  refine ⟨0,?_⟩
  generalize (gV b).length = N1 at *
  generalize (mJ b).length = N2 at *
  generalize (nU b b.length [] 0).length = N3 at *
  generalize b.length = N at *
  simp (maxSteps:=2000000) -implicitDefEqProofs [-getElem?_pos,go_sem,eqV,aj,e1,e2,e3,e4,e5,e6,e7,e8,e9,eK]
end
end Go.Proofs.Yteblpjhkgdpchaa
