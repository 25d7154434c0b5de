/- QB to SF: texts of this claim, one behind the other; what each shows stands at its head. -/
import Derived.Test.YtbodincpjijdiaaMg8
set_option linter.unusedSimpArgs false
set_option linter.unusedVariables false
set_option maxRecDepth 100000
set_option maxHeartbeats 8000000
namespace Go.Proofs.Ytbodincpjijdiaa
open Go.AM
theorem GI (b:List UInt8) (p:Nat):∀ (f k:Nat) (s:Nat × Nat),s.1≤258→p + s.1≤b.length→(jZ b p f k s).1≤258∧p + (jZ b p f k s).1≤b.length
  | 0,_,s,h,h2=>⟨h,h2⟩
  | f + 1,k,s,h,h2=>by
    unfold jZ
    split
    · refine GI b p f (k + 1) _ ?_ ?_
      · split
        · exact (oU b (p - k) p 258 0 (by omega)).1
        · exact h
      · split
        · exact vI b (p - k) p 258 0 (by omega)
        · exact h2
    · exact ⟨h,h2⟩
section
variable {c:Nat} {b:List UInt8}
def qK (c:Nat) (b:List UInt8) (v:AV) (p:Nat):AM.Frame:=[(0,.ro c (.pb b) 1),(3,v),(4,.int .i64 (p:Nat))]
def rp0:Option AM.Obj:=some ⟨.pr 3 [],0,none,0,true,false,0⟩
theorem Q9 {m p n d N g:Nat} {v:AV} {E E':AM.Heap} {fr:AM.Frame} (hn:3≤n) (hp:p≤100000) (hn2:n≤258) (hA:bD X E 75 v (.ro 1 (.pr 3 [pcR ⟨n,d,0⟩]) 0) = some (.sl 1 0 N g,E')) :
    ∃ code,((Try.f46.body).bind (aF [1,1,0,1,0,0,1,0,1,1,1,0])) = some code∧Run X (evT X) 46 m code [(0,.ro c (.pb b) 1),(3,v),(4,.int .i64 (p:Nat)),(5,.int .i64 (n:Nat)),(6,.int .i64 (d:Nat)),(36,.bool true)] E ⟨.normal,qK c b (.sl 1 0 N g) (p + n),E'⟩:=by
  refine ⟨_,rfl,?_⟩
  have w1:IntKind.i64.wrap ((p:Int) + (n:Int)) = ((p + n:Nat):Int):=by rw [wrap_i64 (by omega) (by omega)];omega
  simp only [pcR] at hA
  have hA':bD X E 75 v (.ro 1 (.pr 3 [.pc [.int .i64 (n:Nat),.int .i64 (d:Nat),.int .u8 0]]) 0) = some (.sl 1 0 N g,E'):=hA
  generalize p + n = pn at *
  simp only [qK]
  (refine ⟨0,?_⟩;simp (maxSteps:=2000000) -implicitDefEqProofs [-getElem?_pos,go_sem,eqV,ah,w1,VE,WL,hA',ak,Ud,kE,retag])
theorem Rf {m p N g:Nat} {y:UInt8} {n d:Int} {v:AV} {E E':AM.Heap} (hy:b[p]? = some y) (hp:p≤100000) (hA:bD X E 75 v (.ro 1 (.pr 3 [pcR ⟨0,0,y⟩]) 0) = some (.sl 1 0 N g,E')) :
    ∃ code,((Try.f46.body).bind (aF [1,1,0,1,0,0,1,0,1,1,1,1])) = some code∧Run X (evT X) 46 m code [(0,.ro c (.pb b) 1),(3,v),(4,.int .i64 (p:Nat)),(5,.int .i64 n),(6,.int .i64 d),(36,.bool false)] E ⟨.normal,qK c b (.sl 1 0 N g) (p + 1),E'⟩:=by
  refine ⟨_,rfl,?_⟩
  have w1:IntKind.i64.wrap ((p:Int) + 1) = ((p + 1:Nat):Int):=by rw [wrap_i64 (by omega) (by omega)];omega
  have hl:=eY hy
  have hlI:(p:Int) < (b.length:Int):=by omega
  simp only [pcR] at hA
  have hA':bD X E 75 v (.ro 1 (.pr 3 [.pc [.int .i64 0,.int .i64 0,.int .u8 (y.toNat:Nat)]]) 0) = some (.sl 1 0 N g,E'):=hA
  generalize p + 1 = p1 at *
  simp only [qK]
  (refine ⟨0,?_⟩;simp (maxSteps:=2000000) -implicitDefEqProofs [-getElem?_pos,go_sem,eqV,ah,w1,hy,hl,hlI,VD,WL,hA',ak,Ud,kE,retag])
theorem Uz {p:Nat} (hp:p < b.length):p + max 1 (sF b p).len≤b.length:=by
  have:=(GI b p p 1 (0,0) (by simp) (by simp;omega)).2
  unfold sF
  split
  · simp only;omega
  · simp only;omega
theorem GK {m:Nat} (hb:b.length≤1400):∃ code,Try.f46.body = some code ∧
    aj (jV fun fr E'=>∃ g ob,au fr 2 = .sl 1 0 (sG b b.length 0).length g∧E'[1]? = some (some ob)∧Rw (.pr 3 ((sG b b.length 0).map pcR)) g ob) X (evT X) 46 m code [(0,.ro c (.pb b) 1)] []:=by
  refine ⟨_,rfl,?_⟩
  apply aj.seq (fr':=[(0,.ro c (.pb b) 1)]) (H':=[rp0])
  · simp only [rp0]
    (refine ⟨0,?_⟩;simp (maxSteps:=2000000) -implicitDefEqProofs [-getElem?_pos,go_sem,eqV,ah,ak,rowOf,Uh])
  apply aj.seq (fr':=[(0,.ro c (.pb b) 1),(3,.sl 1 0 0 0)]) (H':=[rp0,rp0])
  · simp only [rp0]
    (refine ⟨0,?_⟩;simp (maxSteps:=2000000) -implicitDefEqProofs [-getElem?_pos,go_sem,eqV,ah,ak,rowOf,Uh])
  have h0:([rp0,rp0]:AM.Heap)[1]? = some (some ⟨.pr 3 [],0,none,0,true,false,0⟩):=rfl
  generalize ([rp0,rp0]:AM.Heap) = E0 at *
  apply aj.assoc
  apply aj.seq (fr':=qK c b (.sl 1 0 0 0) 0) (H':=E0)
  · simp only [qK]
    (refine ⟨0,?_⟩;simp (maxSteps:=2000000) -implicitDefEqProofs [-getElem?_pos,go_sem,eqV,ah])
  apply aj.andThen (P:=fun fr E'=>∃ g ob,au fr 3 = .sl 1 0 (sG b b.length 0).length g∧E'[1]? = some (some ob)∧Rw (.pr 3 ((sG b b.length 0).map pcR)) g ob)
  · apply aj.block
    refine aj.kJ (I:=fun q fr E'=>∃ g ob L p,fr = qK c b (.sl 1 0 L.length g) p∧E'[1]? = some (some ob)∧Rw (.pr 3 (L.map pcR)) g ob∧p≤b.length∧b.length≤p + q∧L.length≤p∧L ++ sG b q p = sG b b.length 0) ?_ (k:=b.length) ⟨0,_,[],0,rfl,h0,⟨rfl,rfl,rfl,rfl,rfl⟩,by omega,by omega,by simp,rfl⟩
    rintro q fr E' ⟨g,ob,L,p,rfl,ho,hw,hp,hq,hL,he⟩
    apply aj.assoc
    by_cases hpl:p < b.length
    · have KN:(p:Int) < (b.length:Int):=by omega
      obtain ⟨q,rfl⟩:∃ q',q = q' + 1:=⟨q - 1,by omega⟩
      obtain ⟨y,hy⟩:∃ y,b[p]? = some y:=⟨_,List.getElem?_eq_getElem hpl⟩
      rw [sG,if_pos hpl] at he
      have hfit:=Uz hpl
      apply aj.seq (fr':=qK c b (.sl 1 0 L.length g) p ++ [(12,.bool true)]) (H':=E')
      · simp only [qK]
        generalize L.length = N at *
        generalize hB:b.length = B at *
        (refine ⟨0,?_⟩;simp (maxSteps:=2000000) -implicitDefEqProofs [-getElem?_pos,go_sem,eqV,ah,KN,hpl,hB])
      apply aj.seq (fr':=qK c b (.sl 1 0 L.length g) p ++ [(12,.bool true)]) (H':=E')
      · exact Run.cond (d:=true) (by simp [qK,aC,au]) ⟨0,rfl⟩
      suffices hT:aj (Goes fun fr E2=>∃ g' ob',fr = qK c b (.sl 1 0 (L ++ [sF b p]).length g') (p + max 1 (sF b p).len)∧E2[1]? = some (some ob')∧Rw (.pr 3 ((L ++ [sF b p]).map pcR)) g' ob') X (evT X) 46 m _ (qK c b (.sl 1 0 L.length g) p ++ [(12,.bool true)]) E' from hT.mono fun o ⟨h1,g',ob',h2,h3,h4⟩=>.inl ⟨h1,q,by omega,g',ob',_,_,h2,h3,h4,hfit,by omega,by simp;omega,by rw [← he];simp⟩
      refine aj.blk ?_ (fun o ho=>by rw [ho.1];simp)
      apply aj.seq (fr':=[(0,.ro c (.pb b) 1),(3,.sl 1 0 L.length g),(4,.int .i64 (p:Nat)),(5,.int .i64 0),(6,.int .i64 0)]) (H':=E')
      · simp only [qK]
        generalize L.length = N at *
        (refine ⟨0,?_⟩;simp (maxSteps:=2000000) -implicitDefEqProofs [-getElem?_pos,go_sem,eqV,ah])
      apply aj.assoc
      apply aj.seq (fr':=uf c b (.sl 1 0 L.length g) p 0 0 1) (H':=E')
      · simp only [uf]
        generalize L.length = N at *
        (refine ⟨0,?_⟩;simp (maxSteps:=2000000) -implicitDefEqProofs [-getElem?_pos,go_sem,eqV,ah])
      apply aj.andThen (piece (UA (m:=m) (c:=c) (b:=b) (p:=p) (v:=.sl 1 0 L.length g) (E:=E') hb (by omega)) _ rfl)
      rintro fr E2 ⟨K,rfl,rfl⟩
      have aaR:=(GI b p p 1 (0,0) (by simp) (by simp;omega)).1
      obtain ⟨ob',hw',hA⟩:=Cc (C:=X) (T:=75) (e:=91) (es:=3) (H:=E2) (o:=1) (m:=[pcR (sF b p)]) (src:=.ro 1 (.pr 3 [pcR (sF b p)]) 0) (by simp) (by simp) (by omega) (by simp) (by simp) ho hw rfl (by simp;omega)
      rw [List.length_map] at hA
      have hw2:Rw (.pr 3 ((L ++ [sF b p]).map pcR)) (g + 1) ob':=by rw [List.map_append];exact hw'
      have hlen2:(L ++ [sF b p]).length = L.length + 1:=by simp
      rw [hlen2]
      have hget:b.getD p 0 = y:=by rw [List.getD_eq_getElem?_getD,hy];rfl
      by_cases h3:3≤(jZ b p p 1 (0,0)).1
      · have h3I:(3:Int)≤((jZ b p p 1 (0,0)).1:Nat):=by omega
        have hpc:sF b p = ⟨(jZ b p p 1 (0,0)).1,(jZ b p p 1 (0,0)).2,0⟩:=by unfold sF;rw [if_pos h3]
        have hmx:max 1 (sF b p).len = (jZ b p p 1 (0,0)).1:=by rw [hpc];simp only;omega
        rw [hmx]
        rw [hpc] at hA
        refine aj.of (o:=⟨.normal,qK c b (.sl 1 0 (L.length + 1) (g + 1)) (p + (jZ b p p 1 (0,0)).1),AM.upd E2 1 (some ob')⟩) ?_ ⟨rfl,g + 1,ob',rfl,setAt ho,hw2⟩
        have ht:=Q9 (m:=m) (c:=c) (b:=b) (p:=p) (n:=(jZ b p p 1 (0,0)).1) (d:=(jZ b p p 1 (0,0)).2) (fr:=[]) h3 (by omega) aaR hA
        generalize (jZ b p p 1 (0,0)).1 = n at *
        generalize (jZ b p p 1 (0,0)).2 = d at *
        generalize p + n = pn at *
        apply Run.seq (fr':=[(0,.ro c (.pb b) 1),(3,.sl 1 0 L.length g),(4,.int .i64 (p:Nat)),(5,.int .i64 (n:Nat)),(6,.int .i64 (d:Nat)),(36,.bool true)]) (H':=E2)
        · simp only [uf]
          generalize L.length = N at *
          (refine ⟨0,?_⟩;simp (maxSteps:=2000000) -implicitDefEqProofs [-getElem?_pos,go_sem,eqV,ah,h3I,h3])
        · exact Run.cond (d:=true) (by simp [aC,au]) (piece ht _ rfl)
      · have h3I:¬ (3:Int)≤((jZ b p p 1 (0,0)).1:Nat):=by omega
        have hpc:sF b p = ⟨0,0,y⟩:=by unfold sF;rw [if_neg h3,hget]
        have hmx:max 1 (sF b p).len = 1:=by rw [hpc];rfl
        rw [hmx]
        rw [hpc] at hA
        refine aj.of (o:=⟨.normal,qK c b (.sl 1 0 (L.length + 1) (g + 1)) (p + 1),AM.upd E2 1 (some ob')⟩) ?_ ⟨rfl,g + 1,ob',rfl,setAt ho,hw2⟩
        have ht:=Rf (m:=m) (c:=c) (b:=b) (p:=p) (n:=((jZ b p p 1 (0,0)).1:Nat)) (d:=((jZ b p p 1 (0,0)).2:Nat)) hy (by omega) hA
        generalize (jZ b p p 1 (0,0)).1 = n at *
        generalize (jZ b p p 1 (0,0)).2 = d at *
        apply Run.seq (fr':=[(0,.ro c (.pb b) 1),(3,.sl 1 0 L.length g),(4,.int .i64 (p:Nat)),(5,.int .i64 (n:Nat)),(6,.int .i64 (d:Nat)),(36,.bool false)]) (H':=E2)
        · simp only [uf]
          generalize L.length = N at *
          (refine ⟨0,?_⟩;simp (maxSteps:=2000000) -implicitDefEqProofs [-getElem?_pos,go_sem,eqV,ah,h3I,h3])
        · exact Run.cond (d:=false) (by simp [aC,au]) (piece ht _ rfl)
    · have KN:¬ (p:Int) < (b.length:Int):=by omega
      have hq0:sG b q p = []:=by
        cases q with
        | zero=>rfl
        | succ q=>rw [sG,if_neg hpl]
      rw [hq0,List.append_nil] at he
      refine aj.of (o:=⟨.exit 0,qK c b (.sl 1 0 L.length g) p ++ [(12,.bool false)],E'⟩) ?_ (.inr ⟨by simp,rfl,g,ob,by rw [← he];simp [qK,au],ho,by rw [← he];exact hw⟩)
      apply Run.seq (fr':=qK c b (.sl 1 0 L.length g) p ++ [(12,.bool false)]) (H':=E')
      · simp only [qK]
        generalize L.length = N at *
        generalize hB:b.length = B at *
        (refine ⟨0,?_⟩;simp (maxSteps:=2000000) -implicitDefEqProofs [-getElem?_pos,go_sem,eqV,ah,KN,hpl,hB])
      · refine Run.bH ?_ (by simp)
        exact Run.cond (d:=false) (by simp [qK,aC,au]) ⟨0,rfl⟩
  rintro fr E' ⟨g,ob,hv,ho,hw⟩
  generalize sG b b.length 0 = L at *
  refine aj.of (o:=⟨.ret,[(2,.sl 1 0 L.length g)],E'⟩) ?_ ⟨rfl,g,ob,rfl,ho,hw⟩
  generalize L.length = N at *
  refine ⟨0,?_⟩
  simp (maxSteps:=2000000) -implicitDefEqProofs [-getElem?_pos,go_sem,eqV,ah,hv,ak]
theorem Lm {H:AM.Heap} {a:AV} (ha:gq H a = some (.pb b)) (hb:b.length≤1400):∃ ob,Rw (.pr 3 ((sG b b.length 0).map pcR)) 0 ob∧evT X 46 [a] H = some (.sl H.length 0 (sG b b.length 0).length 0,H ++ [some ob]):=by
  obtain ⟨c,x,hx⟩:=dS (C:=X) (f:=46) (i:=0) rfl ha (bU 1)
  obtain ⟨code,hc,⟨out,⟨ho,g,ob,h2,h4,hw⟩,hrun⟩⟩:=GK (m:=0) (c:=c) hb
  obtain ⟨f1,f2⟩:=Iw (sG b b.length 0)
  obtain ⟨ob',q1,q2⟩:=Ev1.newR (C:=X) (H:=H) (bn X) (n:=(sG b b.length 0).length) (es:=3) (l:=(sG b b.length 0).map pcR) (rest:=[]) Try.func46 hc hx rfl (by simp [bW]) rfl rfl rfl f1 f2 (by
    rw [Y7]
    refine ⟨out,⟨ho,1,g,ob,?_,h4,hw⟩,hrun⟩
    show aQ X out.fr out.H [.tmp 2] = _
    simp [aQ,h2])
  exact ⟨ob',q1,dA q2⟩
end
-- plain: the same pieces
def xM (b:List UInt8) (p:Nat) (s:Nat × Nat) (k:Nat):Nat × Nat:=if s.1 < bM b (p - k) p 258 0 then (bM b (p - k) p 258 0,k) else s
theorem zS {b:List UInt8} {p:Nat} {s:Nat × Nat} {k:Nat} (h:¬ s.1 < 258):xM b p s k = s:=by
  unfold xM
  have:=(oU b (p - k) p 258 0 (by omega)).1
  rw [if_neg (by omega)]
theorem xO {b:List UInt8} {p:Nat} {s:Nat × Nat} (h:¬ s.1 < 258):∀ L:List Nat,L.foldl (xM b p) s = s
  | []=>rfl
  | k :: L=>by rw [List.foldl_cons,zS h,xO h L]
theorem EN {b:List UInt8} {p:Nat} (hp:p≤32768):∀ (f k:Nat) (s:Nat × Nat),k + f = p + 1→jZ b p f k s = (List.range' k f).foldl (xM b p) s
  | 0,k,s,h=>rfl
  | f + 1,k,s,h=>by
    rw [List.range'_succ,List.foldl_cons]
    unfold jZ
    by_cases h3:s.1 < 258
    · rw [if_pos ⟨by omega,by omega,h3⟩]
      exact EN hp f (k + 1) _ (by omega)
    · rw [if_neg (fun h=>h3 h.2.2),zS h3,xO h3]
theorem EO {b:List UInt8} {p:Nat} (hp:p≤32768):∀ (L:List Nat) (s:Nat × Nat),(∀ x ∈ L,x < p)→oQ b p L s = (L.map fun x=>p - x).foldl (xM b p) s
  | [],s,_=>rfl
  | x :: L,s,h=>by
    have hx:=h x (List.mem_cons_self ..)
    have hr:=fun y hy=>h y (List.mem_cons_of_mem _ hy)
    rw [List.map_cons,List.foldl_cons]
    unfold oQ
    have e:xM b p s (p - x) = if s.1 < bM b x p 258 0 then (bM b x p 258 0,p - x) else s:=by
      unfold xM
      rw [show p - (p - x) = x by omega]
    by_cases h3:s.1 < 258
    · rw [if_pos ⟨by omega,h3⟩,e]
      exact EO hp L _ hr
    · rw [if_neg (fun h=>h3 h.2),zS h3,xO h3]
theorem fold_filter {b:List UInt8} {p:Nat} (q:Nat→Bool) (hq:∀ k,q k = false→bM b (p - k) p 258 0 < 3):∀ (L:List Nat) (s s2:Nat × Nat),(s = s2∨(s.1 < 3∧s2.1 < 3))→(L.foldl (xM b p) s = (L.filter q).foldl (xM b p) s2∨((L.foldl (xM b p) s).1 < 3∧((L.filter q).foldl (xM b p) s2).1 < 3))
  | [],s,s2,h=>h
  | k :: L,s,s2,h=>by
    cases hk:q k with
    | true =>
      rw [List.filter_cons_of_pos hk,List.foldl_cons,List.foldl_cons]
      refine fold_filter q hq L _ _ ?_
      rcases h with rfl | ⟨h1,h2⟩
      · exact .inl rfl
      · unfold xM
        by_cases h3:bM b (p - k) p 258 0 < 3
        · right
          constructor <;> split <;> first | omega | (simp only;omega)
        · left
          rw [if_pos (by omega),if_pos (by omega)]
    | false =>
      rw [List.filter_cons_of_neg (by simp [hk]),List.foldl_cons]
      refine fold_filter q hq L _ _ ?_
      have h3:=hq k hk
      unfold xM
      split
      · rename_i hs
        right
        rcases h with rfl | ⟨h1,h2⟩
        · exact ⟨h3,by omega⟩
        · exact ⟨h3,h2⟩
      · exact h
theorem O4 (p:Nat):((List.range p).reverse).map (fun x=>p - x) = List.range' 1 p:=by
  refine List.ext_getElem (by simp) fun i h1 h2=>?_
  simp at h1 h2 ⊢
  omega
theorem Rh {b:List UInt8} {p:Nat} (hp:p < b.length) (hb:b.length≤32768):sF b p = dO b (qF b [] 0 p) p:=by
  have hf:jZ b p p 1 (0,0) = (List.range' 1 p).foldl (xM b p) (0,0):=EN (by omega) p 1 (0,0) (by omega)
  have key:jZ b p p 1 (0,0) = jo b (qF b [] 0 p) p∨((jZ b p p 1 (0,0)).1 < 3∧(jo b (qF b [] 0 p) p).1 < 3):=by
    rw [hf]
    by_cases h3:p + 3≤b.length
    · have Ri:jo b (qF b [] 0 p) p = ((vT b (jP b p) p).reverse.map fun x=>p - x).foldl (xM b p) (0,0):=by
        unfold jo
        rw [if_pos h3,VJ,EO (by omega)]
        intro x hx
        rw [List.mem_reverse] at hx
        unfold vT at hx
        exact List.mem_range.1 (List.mem_filter.1 hx).1
      have hfil:(vT b (jP b p) p).reverse.map (fun x=>p - x) = (List.range' 1 p).filter fun k=>decide (p - k + 3≤b.length) && decide (jP b (p - k) = jP b p):=by
        unfold vT
        rw [← O4,List.filter_map,← List.filter_reverse]
        congr 1
        refine List.filter_congr fun x hx=>?_
        have hx:x < p:=by simpa using hx
        simp only [Function.comp]
        rw [show p - (p - x) = x by omega]
      rw [Ri,hfil]
      refine fold_filter _ (fun k hk=>?_) _ _ _ (.inl rfl)
      refine Classical.byContradiction fun hc=>?_
      by_cases hkp:p - k < p
      · obtain ⟨a1,a2,a3⟩:=Lp (i:=p - k) (p:=p) (b:=b) (by omega) hkp
        simp [a2,a3] at hk
      · have:p - k = p:=by omega
        rw [this] at hk
        simp [h3] at hk
    · have Ri:jo b (qF b [] 0 p) p = (0,0):=by unfold jo;rw [if_neg h3]
      rw [Ri]
      right
      refine ⟨?_,by simp⟩
      have h:=fold_filter (b:=b) (p:=p) (fun _=>false) (fun k _=>?_) (List.range' 1 p) (0,0) (0,0) (.inl rfl)
      · rcases h with h | h
        · rw [h,show (List.range' 1 p).filter (fun _=>false) = [] by simp]
          simp
        · exact h.1
      · have:=vI b (p - k) p 258 0 (by omega)
        omega
  unfold sF dO
  rcases key with h | ⟨h1,h2⟩
  · rw [h]
  · rw [if_neg (by omega),if_neg (by omega)]
theorem EP {b:List UInt8} (hb:b.length≤32768):∀ (f p:Nat),p≤b.length→sG b f p = lQ b f (qF b [] 0 p) p
  | 0,_,_=>rfl
  | f + 1,p,hp=>by
    unfold sG lQ
    by_cases hlt:p < b.length
    · rw [if_pos hlt,if_pos hlt,Rh hlt hb]
      have hu:=VK b [] 0 p (max 1 (dO b (qF b [] 0 p) p).len)
      rw [Nat.zero_add] at hu
      rw [hu,EP hb f _ (qZ hlt)]
    · rw [if_neg hlt,if_neg hlt]
end Go.Proofs.Ytbodincpjijdiaa
namespace Go.Proofs.Ytbodincpjijdiaa
open Go.AM
theorem Rj {a b:List UInt8} (hl:a.length = b.length) (h:∀ i,i < 8 * a.length→jJ a i = jJ b i):a = b:=by
  refine List.ext_getElem hl fun j h1 h2=>?_
  refine UInt8.toNat_inj.1 ?_
  have hb:∀ k,k < 8→a[j].toNat / 2 ^ k % 2 = b[j].toNat / 2 ^ k % 2:=by
    intro k hk
    have:=h (8 * j + k) (by omega)
    unfold jJ at this
    rw [show (8 * j + k) / 8 = j by omega,show (8 * j + k) % 8 = k by omega,List.getD_eq_getElem?_getD,List.getD_eq_getElem?_getD,List.getElem?_eq_getElem h1,List.getElem?_eq_getElem h2] at this
    simp only [Option.getD_some] at this
    omega
  have h0:=hb 0 (by omega);have h1':=hb 1 (by omega);have h2':=hb 2 (by omega);have h3:=hb 3 (by omega)
  have h4:=hb 4 (by omega);have h5:=hb 5 (by omega);have h6:=hb 6 (by omega);have h7:=hb 7 (by omega)
  have:=a[j].toNat_lt;have:=b[j].toNat_lt
  simp only [Nat.pow_zero,Nat.div_one,Nat.reducePow] at h0 h1' h2' h3 h4 h5 h6 h7
  omega
def wH (L:Nat):List UInt8:=[1,UInt8.ofNat L,UInt8.ofNat (L / 256),UInt8.ofNat (65535 - L),UInt8.ofNat ((65535 - L) / 256)]
theorem O5 {b:List UInt8} (hb:b.length≤65535):(tV b).o = wH b.length:=by
  obtain ⟨w1,w2,w3⟩:=xP (b:=b)
  have hs:tV b = bI (bI ⟨8,[1]⟩ (b.length:Nat) 16) (-(b.length:Int) - 1) 16:=by unfold tV;rw [f13]
  obtain ⟨a1,b1,c1⟩:=fO (x:=(b.length:Nat)) Gd.one 16
  obtain ⟨a2,b2,c2⟩:=fO (x:=-(b.length:Int) - 1) a1 16
  have k1:=(bV (x:=(b.length:Nat)) Gd.one.ok 16).2
  refine Rj (by rw [w3];rfl) fun i hi=>?_
  rw [w3] at hi
  rw [hs]
  have hL2:((65535 - b.length:Nat):Int) = 65535 - (b.length:Int):=by omega
  by_cases h8:i < 8
  · rw [b2.at' i (by rw [k1];show i < 8 + 16;omega),b1.at' i h8]
    unfold jJ wH
    rw [show i / 8 = 0 by omega]
    rfl
  · by_cases h24:i < 24
    · have:=c1 (i - 8) (by omega)
      rw [show (⟨8,[1]⟩:Ws).k + (i - 8) = i by show 8 + (i - 8) = i;omega] at this
      rw [b2.at' i (by rw [k1];show i < 8 + 16;omega),this]
      have e:((b.length:Nat):Int) / 2 ^ (i - 8) % 2 = ((b.length / 2 ^ (i - 8) % 2:Nat):Int):=by push_cast;rfl
      rw [e]
      unfold jJ wH
      congr 1
      by_cases h16:i < 16
      · rw [show i / 8 = 1 by omega,show i % 8 = i - 8 by omega]
        simp only [List.getD_cons_succ,List.getD_cons_zero,UInt8.toNat_ofNat']
        generalize b.length = L at *
        have:i - 8 < 8:=by omega
        generalize i - 8 = k at *
        match k,this with
        | 0,_ | 1,_ | 2,_ | 3,_ | 4,_ | 5,_ | 6,_ | 7,_=>simp only [Nat.pow_zero,Nat.div_one,Nat.reducePow];omega
      · rw [show i / 8 = 2 by omega,show i - 8 = 8 + i % 8 by omega]
        simp only [List.getD_cons_succ,List.getD_cons_zero,UInt8.toNat_ofNat']
        generalize b.length = L at *
        have:i % 8 < 8:=by omega
        generalize i % 8 = k at *
        match k,this with
        | 0,_ | 1,_ | 2,_ | 3,_ | 4,_ | 5,_ | 6,_ | 7,_=>simp only [Nat.pow_zero,Nat.div_one,Nat.reducePow,Nat.reduceAdd];omega
    · have:=c2 (i - 24) (by omega)
      rw [k1,show (⟨8,[1]⟩:Ws).k + 16 + (i - 24) = i by show 8 + 16 + (i - 24) = i;omega] at this
      rw [this]
      have e:(-(b.length:Int) - 1) / 2 ^ (i - 24) % 2 = (((65535 - b.length) / 2 ^ (i - 24) % 2:Nat):Int):=by
        have hk:i - 24 < 16:=by omega
        generalize b.length = L at *
        generalize i - 24 = k at *
        match k,hk with
        | 0,_ | 1,_ | 2,_ | 3,_ | 4,_ | 5,_ | 6,_ | 7,_ | 8,_ | 9,_ | 10,_ | 11,_ | 12,_ | 13,_ | 14,_ | 15,_=>simp only [Nat.pow_zero,Nat.div_one,Nat.reducePow,Int.reducePow,Int.pow_zero,Int.ediv_one];omega
        | k + 16,h=>exact absurd h (by omega)
      rw [e]
      unfold jJ wH
      congr 1
      by_cases h32:i < 32
      · rw [show i / 8 = 3 by omega,show i % 8 = i - 24 by omega]
        simp only [List.getD_cons_succ,List.getD_cons_zero,UInt8.toNat_ofNat']
        generalize 65535 - b.length = L at *
        have:i - 24 < 8:=by omega
        generalize i - 24 = k at *
        match k,this with
        | 0,_ | 1,_ | 2,_ | 3,_ | 4,_ | 5,_ | 6,_ | 7,_=>simp only [Nat.pow_zero,Nat.div_one,Nat.reducePow];omega
      · rw [show i / 8 = 4 by omega,show i - 24 = 8 + i % 8 by omega]
        simp only [List.getD_cons_succ,List.getD_cons_zero,UInt8.toNat_ofNat']
        generalize 65535 - b.length = L at *
        have:i % 8 < 8:=by omega
        generalize i % 8 = k at *
        match k,this with
        | 0,_ | 1,_ | 2,_ | 3,_ | 4,_ | 5,_ | 6,_ | 7,_=>simp only [Nat.pow_zero,Nat.div_one,Nat.reducePow,Nat.reduceAdd];omega
theorem IZ {b:List UInt8} (hb:b.length≤65535):fP b = wH b.length ++ b:=by
  unfold fP
  rw [O5 hb]
end Go.Proofs.Ytbodincpjijdiaa
namespace Go.Proofs.Ytbodincpjijdiaa
open Go.AM
theorem Xo (H:AM.Heap) (L:Nat):bP X H 22 5 [(0,.int .u8 1),(1,.int .u8 (UInt8.ofNat L).toNat),(2,.int .u8 (UInt8.ofNat (L / 256)).toNat),(3,.int .u8 (UInt8.ofNat (65535 - L)).toNat),(4,.int .u8 (UInt8.ofNat ((65535 - L) / 256)).toNat)] = some (.ro 1 (.pb (wH L)) 0,H):=by
  unfold wH
  generalize UInt8.ofNat L = x0
  generalize UInt8.ofNat (L / 256) = x1
  generalize UInt8.ofNat (65535 - L) = x2
  generalize UInt8.ofNat ((65535 - L) / 256) = x3
  have h0:(x0.toNat:Int) < 256:=by have:=x0.toNat_lt;omega
  have h1:(x1.toNat:Int) < 256:=by have:=x1.toNat_lt;omega
  have h2:(x2.toNat:Int) < 256:=by have:=x2.toNat_lt;omega
  have h3:(x3.toNat:Int) < 256:=by have:=x3.toNat_lt;omega
  simp [bP,jk,o9,mkRow,je,dK,cellsOf,scalars,scalar,aJ,ids,bQ,tags,dU,h0,h1,h2,h3]
theorem CU (n:Int) (s:Nat) (h:n % 256 = ((s % 256:Nat):Int)):IntKind.u8.wrap n = (UInt8.ofNat s).toNat:=by
  rw [UInt8.toNat_ofNat']
  show n % 256 = ((s % 256:Nat):Int)
  exact h
def kP:AM.Obj:=⟨.pb [],0,none,0,true,false,0⟩
theorem NS:rowOf (bJ X 5) none 0 = kP:=by simp [bJ,rowOf,kP]
section
variable {c:Nat} {b:List UInt8}
def zT (c:Nat) (b:List UInt8) (v:AV) (p n l:Int):AM.Frame:=[(0,.ro c (.pb b) 1),(3,v),(4,.int .i64 p),(5,.int .i64 n),(6,.int .u8 l)]
theorem aaS {m:Nat} {E E':AM.Heap} {v:AV} {N g:Nat} (hb:b.length≤65535) (hA:bD X E 22 v (.ro 1 (.pb (wH b.length)) 0) = some (.sl 1 0 N g,E')):∃ code,((Try.f47.body).bind (aF [1,1,0,1,0,0,1,0,1,1,1,0])) = some code∧Run X (evT X) 47 m code (zT c b v 0 (b.length:Nat) 1) E ⟨.normal,zT c b (.sl 1 0 N g) 0 (b.length:Nat) 1,E'⟩:=by
  refine ⟨_,rfl,?_⟩
  have hbs:=Xo E b.length
  have wn:=YC hb
  have a1:=CU ((b.length:Nat):Int) b.length (by omega)
  have a2:=CU (((b.length / 256:Nat):Nat):Int) (b.length / 256) (by omega)
  have a3:=CU (-(b.length:Int) - 1) (65535 - b.length) (by omega)
  have a4:=CU ((-(b.length:Int) - 1).fdiv 256) ((65535 - b.length) / 256) (by rw [Int.fdiv_eq_ediv_of_nonneg _ (by omega)];omega)
  have a4':=CU ((-(b.length:Int) - 1) / 256) ((65535 - b.length) / 256) (by omega)
  have f1:((b.length:Nat):Int).fdiv 256 = ((b.length / 256:Nat):Int):=by rw [Int.fdiv_eq_ediv_of_nonneg _ (by omega)];omega
  have f1':((b.length:Nat):Int) / 256 = ((b.length / 256:Nat):Int):=by omega
  have wx:IntKind.i64.wrap (-1 - (b.length:Int)) = -(b.length:Int) - 1:=by rw [wrap_i64 (by omega) (by omega)];omega
  simp only [zT]
  generalize (UInt8.ofNat ((65535 - b.length) / 256)).toNat = y4 at *
  generalize (UInt8.ofNat (65535 - b.length)).toNat = y3 at *
  generalize (UInt8.ofNat (b.length / 256)).toNat = y2 at *
  generalize (UInt8.ofNat b.length).toNat = y1 at *
  generalize b.length / 256 = L2 at *
  generalize wH b.length = q at *
  generalize b.length = L at *
  simp only [go_sem] at wn
  (refine ⟨0,?_⟩;simp (maxSteps:=2000000) -implicitDefEqProofs [-getElem?_pos,go_sem,eqV,ah,a1,a2,a3,a4,a4',f1,f1',wn,wx,hbs,hA,ak])
theorem GL {m:Nat} (hb:b.length≤65535):∃ code,Try.f47.body = some code∧aj (jV fun fr E=>∃ a g ob,au fr 2 = .sl a 0 (fP b).length g∧E[a]? = some (some ob)∧Rw (.pb (fP b)) g ob) X (evT X) 47 m code [(0,.ro c (.pb b) 1)] []:=by
  refine ⟨_,rfl,?_⟩
  obtain ⟨ob1,w1,hA⟩:=mY (C:=X) (T:=22) (e:=5) (H:=[some kP,some kP]) (o:=1) (g:=0) (ob:=kP) (l:=[]) (m:=wH b.length) (src:=.ro 1 (.pb (wH b.length)) 0) kK rV kL bytes5 qC rfl ⟨rfl,rfl,rfl,rfl,rfl⟩ (.inl (by simp [gU,jF,kM])) (by simp [wH])
  rw [List.nil_append] at w1
  simp only [List.length_nil,Nat.zero_add] at hA w1
  obtain ⟨ob2,w2,hB⟩:=mY (C:=X) (T:=22) (e:=5) (H:=[some kP,some ob1]) (o:=1) (g:=1) (ob:=ob1) (l:=wH b.length) (m:=b) (src:=.ro (if c = 0 then 0 else 2) (.pb b) 1) kK rV kL bytes5 qC rfl w1 (.inl (by simp [gU,jF,kM])) (by simp [wH];omega)
  rw [← IZ hb] at w2
  have hsl:(wH b.length).length + b.length = (fP b).length:=by rw [IZ hb,List.length_append]
  rw [hsl] at hB
  have hu:AM.upd [some kP,some kP] 1 (some ob1) = [some kP,some ob1]:=rfl
  rw [hu] at hA
  apply aj.seq (fr':=[(0,.ro c (.pb b) 1)]) (H':=[some kP])
  · (refine ⟨0,?_⟩;simp (maxSteps:=2000000) -implicitDefEqProofs [-getElem?_pos,go_sem,eqV,ah,ak,NS])
  apply aj.seq (fr':=[(0,.ro c (.pb b) 1),(3,.sl 1 0 0 0)]) (H':=[some kP,some kP])
  · (refine ⟨0,?_⟩;simp (maxSteps:=2000000) -implicitDefEqProofs [-getElem?_pos,go_sem,eqV,ah,ak,NS])
  apply aj.assoc
  apply aj.seq (fr':=[(0,.ro c (.pb b) 1),(3,.sl 1 0 0 0),(4,.int .i64 0)]) (H':=[some kP,some kP])
  · (refine ⟨0,?_⟩;simp (maxSteps:=2000000) -implicitDefEqProofs [-getElem?_pos,go_sem,eqV,ah])
  refine aj.Xk ?_ (fun o ho=>by rw [ho.1];simp)
  refine aj.blk ?_ (fun o ho=>by rw [ho.1];simp)
  refine aj.kJ (I:=fun k fr E=>k = 0∧fr = [(0,.ro c (.pb b) 1),(3,.sl 1 0 0 0),(4,.int .i64 0)]∧E = [some kP,some kP]) ?_ (k:=0) ⟨rfl,rfl,rfl⟩
  rintro k fr E ⟨rfl,rfl,rfl⟩
  suffices hT:aj (jV fun fr E=>∃ a g ob,au fr 2 = .sl a 0 (fP b).length g∧E[a]? = some (some ob)∧Rw (.pb (fP b)) g ob) X (evT X) 47 m _ [(0,.ro c (.pb b) 1),(3,.sl 1 0 0 0),(4,.int .i64 0)] [some kP,some kP] from hT.mono fun o ho=>.inr ⟨by rw [ho.1];simp,ho⟩
  apply aj.assoc
  apply aj.seq (fr':=[(0,.ro c (.pb b) 1),(3,.sl 1 0 0 0),(4,.int .i64 0),(14,.bool true)]) (H':=[some kP,some kP])
  · (refine ⟨0,?_⟩;simp (maxSteps:=2000000) -implicitDefEqProofs [-getElem?_pos,go_sem,eqV,ah])
  apply aj.seq (fr':=[(0,.ro c (.pb b) 1),(3,.sl 1 0 0 0),(4,.int .i64 0),(14,.bool true)]) (H':=[some kP,some kP])
  · exact Run.cond (d:=true) (by simp [aC,au]) ⟨0,rfl⟩
  refine aj.blk ?_ (fun o ho=>by rw [ho.1];simp)
  have hI2:¬ (b.length:Int) > 65535:=by omega
  apply aj.seq (fr':=[(0,.ro c (.pb b) 1),(3,.sl 1 0 0 0),(4,.int .i64 0),(5,.int .i64 (b.length:Nat))]) (H':=[some kP,some kP])
  · have wl:IntKind.i64.wrap (b.length:Int) = (b.length:Int):=wrap_i64 (by omega) (by omega)
    have hmm:jf false (.int .i64 65535) [.int .i64 (b.length:Nat)] = some (.int .i64 (b.length:Nat)):=by
      by_cases h:(b.length:Int) < 65535
      · simp only [jf,h,if_true];simp
      · have:(b.length:Int) = 65535:=by omega
        simp [jf,this]
    generalize hL:b.length = L at *
    (refine ⟨0,?_⟩;simp (maxSteps:=2000000) -implicitDefEqProofs [-getElem?_pos,go_sem,eqV,ah,hL,wl,hmm])
  apply aj.seq (fr':=zT c b (.sl 1 0 0 0) 0 (b.length:Nat) 0) (H':=[some kP,some kP])
  · simp only [zT]
    generalize hL:b.length = L at *
    (refine ⟨0,?_⟩;simp (maxSteps:=2000000) -implicitDefEqProofs [-getElem?_pos,go_sem,eqV,ah,hL])
  apply aj.assoc
  apply aj.seq (fr':=zT c b (.sl 1 0 0 0) 0 (b.length:Nat) 0 ++ [(25,.bool true)]) (H':=[some kP,some kP])
  · have wl:IntKind.i64.wrap (b.length:Int) = (b.length:Int):=wrap_i64 (by omega) (by omega)
    simp only [zT]
    generalize hL:b.length = L at *
    (refine ⟨0,?_⟩;simp (maxSteps:=2000000) -implicitDefEqProofs [-getElem?_pos,go_sem,eqV,ah,hL,wl])
  apply aj.seq (fr':=zT c b (.sl 1 0 0 0) 0 (b.length:Nat) 1) (H':=[some kP,some kP])
  · refine Run.cond (d:=true) (by simp [zT,aC,au]) ?_
    simp only [zT]
    generalize hL:b.length = L at *
    (refine ⟨0,?_⟩;simp (maxSteps:=2000000) -implicitDefEqProofs [-getElem?_pos,go_sem,eqV,ah,hL])
  apply aj.seq (piece (aaS (m:=m) (c:=c) (b:=b) hb hA) _ rfl)
  apply aj.seq (fr':=zT c b (.sl 1 0 (fP b).length 2) 0 (b.length:Nat) 1) (H':=AM.upd [some kP,some ob1] 1 (some ob2))
  · have wl:IntKind.i64.wrap (b.length:Int) = (b.length:Int):=wrap_i64 (by omega) (by omega)
    have ht:b.take b.length = b:=List.take_length
    have hz:iw (.pb b) 0 b.length = some (.pb b):=by simp [iw]
    simp only [zT]
    generalize (wH b.length).length = N1 at *
    generalize (fP b).length = N2 at *
    generalize hL:b.length = L at *
    (refine ⟨0,?_⟩;simp (maxSteps:=2000000) -implicitDefEqProofs [-getElem?_pos,go_sem,eqV,ah,hL,wl,jq,bound,hz,ht,hB,ak])
  generalize hE:AM.upd [some kP,some ob1] 1 (some ob2) = E2
  have hE1:E2[1]? = some (some ob2):=by rw [← hE];rfl
  apply aj.seq (fr':=[(0,.ro c (.pb b) 1),(3,.sl 1 0 (fP b).length 2),(4,.int .i64 (b.length:Nat)),(6,.int .u8 1)]) (H':=E2)
  · have wl:IntKind.i64.wrap (b.length:Int) = (b.length:Int):=wrap_i64 (by omega) (by omega)
    simp only [zT]
    generalize (fP b).length = N2 at *
    generalize hL:b.length = L at *
    (refine ⟨0,?_⟩;simp (maxSteps:=2000000) -implicitDefEqProofs [-getElem?_pos,go_sem,eqV,ah,hL,wl])
  refine aj.of (o:=⟨.ret,[(2,.sl 1 0 (fP b).length 2)],E2⟩) ?_ ⟨rfl,1,2,ob2,rfl,hE1,w2⟩
  refine ⟨0,?_⟩
  generalize (fP b).length = N2 at *
  generalize hL:b.length = L at *
  simp (maxSteps:=2000000) -implicitDefEqProofs [-getElem?_pos,go_sem,eqV,ah,hL,ak]
theorem Lr {H:AM.Heap} {a:AV} (ha:gq H a = some (.pb b)) (hb:b.length≤65535):∃ ob,Rw (.pb (fP b)) 0 ob∧evT X 47 [a] H = some (.sl H.length 0 (fP b).length 0,H ++ [some ob]):=by
  obtain ⟨c,x,hx⟩:=dS (C:=X) (f:=47) (i:=0) rfl ha (bU 1)
  obtain ⟨code,hc,⟨out,⟨ho,a2,g,ob,h2,h4,hw⟩,hrun⟩⟩:=GL (m:=0) (c:=c) hb
  obtain ⟨ob',q1,q2⟩:=Ev1.wZ (C:=X) (H:=H) (bn X) (n:=(fP b).length) (l:=fP b) (rest:=[]) Try.func47 hc hx rfl (by simp [bW]) rfl rfl rfl (by
    rw [Y8]
    refine ⟨out,⟨ho,a2,g,ob,?_,h4,hw⟩,hrun⟩
    show aQ X out.fr out.H [.tmp 2] = _
    simp [aQ,h2])
  exact ⟨ob',q1,dA q2⟩
end
end Go.Proofs.Ytbodincpjijdiaa
namespace Go.Proofs.Ytbodincpjijdiaa
open Go.AM
section
variable {c:Nat} {b:List UInt8}
theorem UC {b:List UInt8} (hb:b.length≤1400):sG b b.length 0 = lQ b b.length [] 0:=by
  rw [EP (by omega) b.length 0 (by omega)]
  rfl
theorem Ef {m:Nat} (hb:b.length≤1400):∃ code,Try.f37.body = some code∧aj (jV fun fr E=>∃ a g ob,au fr 2 = .sl a 0 (dP b).length g∧E[a]? = some (some ob)∧Rw (.pb (dP b)) g ob) X (evT X) 37 m code [(0,.ro c (.pb b) 1)] []:=by
  refine ⟨_,rfl,?_⟩
  apply aj.seq (fr':=[(0,.ro c (.pb b) 1)]) (H':=[some (⟨.pb [],0,none,0,true,false,0⟩:AM.Obj)])
  · (refine ⟨0,?_⟩;simp (maxSteps:=2000000) -implicitDefEqProofs [-getElem?_pos,go_sem,eqV,ah,ak,rowOf,WA])
  obtain ⟨ob1,w1,e1⟩:=Lm (H:=[some (⟨.pb [],0,none,0,true,false,0⟩:AM.Obj)]) (a:=.ro c (.pb b) 1) (b:=b) rfl hb
  rw [UC hb] at w1 e1
  have hlen:=yN b b.length [] 0
  obtain ⟨ob2,w2,e2⟩:=O6 (H:=[some (⟨.pb [],0,none,0,true,false,0⟩:AM.Obj),some ob1]) (a:=.sl 1 0 (lQ b b.length [] 0).length 0) (l:=ku b) (by
    unfold ku
    rw [Rk]
    have:=Rl (H:=[some (⟨.pb [],0,none,0,true,false,0⟩:AM.Obj),some ob1]) (o:=1) rfl w1
    rwa [List.length_map] at this) (by unfold ku;rw [List.length_map];omega)
  obtain ⟨ob3,w3,e3⟩:=Lr (H:=[some (⟨.pb [],0,none,0,true,false,0⟩:AM.Obj),some ob1,some ob2]) (a:=.ro c (.pb b) 1) (b:=b) rfl (by omega)
  simp only [List.length_cons,List.length_nil,List.cons_append,List.nil_append] at e1 e2 e3
  unfold dP
  have g2:=w2.g;have g3:=w3.g
  generalize hr0:some (⟨.pb [],0,none,0,true,false,0⟩:AM.Obj) = r0 at *
  apply aj.seq (fr':=[(0,.ro c (.pb b) 1),(3,.sl 2 0 (iF (ku b)).1.length 0)]) (H':=[r0,some ob1,some ob2])
  · generalize (lQ b b.length [] 0).length = N1 at *
    generalize (iF (ku b)).1.length = N2 at *
    generalize (iF (ku b)).2 = er at *
    (refine ⟨0,?_⟩;simp (maxSteps:=2000000) -implicitDefEqProofs [-getElem?_pos,go_sem,eqV,ah,e1,e2,ak])
  apply aj.seq (fr':=[(3,.sl 2 0 (iF (ku b)).1.length 0),(5,.sl 3 0 (fP b).length 0)]) (H':=[r0,some ob1,some ob2,some ob3])
  · generalize (iF (ku b)).1.length = N2 at *
    generalize (fP b).length = N3 at *
    (refine ⟨0,?_⟩;simp (maxSteps:=2000000) -implicitDefEqProofs [-getElem?_pos,go_sem,eqV,ah,e3,ak])
  by_cases hlt:(fP b).length < (iF (ku b)).1.length
  · rw [if_pos hlt]
    have hI:¬ ((iF (ku b)).1.length:Int)≤((fP b).length:Int):=by omega
    have hN:¬ (iF (ku b)).1.length≤(fP b).length:=by omega
    refine aj.of (o:=⟨.ret,[(2,.sl 3 0 (fP b).length 0)],[r0,some ob1,some ob2,some ob3]⟩) ?_ ⟨rfl,3,0,ob3,rfl,rfl,w3⟩
    generalize (iF (ku b)).1.length = N2 at *
    generalize (fP b).length = N3 at *
    refine ⟨0,?_⟩
    simp (maxSteps:=2000000) -implicitDefEqProofs [-getElem?_pos,go_sem,eqV,ah,g2,g3,hI,hN,ak]
  · rw [if_neg hlt]
    have hI:((iF (ku b)).1.length:Int)≤((fP b).length:Int):=by omega
    have hN:(iF (ku b)).1.length≤(fP b).length:=by omega
    refine aj.of (o:=⟨.ret,[(2,.sl 2 0 (iF (ku b)).1.length 0)],[r0,some ob1,some ob2,some ob3]⟩) ?_ ⟨rfl,2,0,ob2,rfl,rfl,w2⟩
    generalize (iF (ku b)).1.length = N2 at *
    generalize (fP b).length = N3 at *
    refine ⟨0,?_⟩
    simp (maxSteps:=2000000) -implicitDefEqProofs [-getElem?_pos,go_sem,eqV,ah,g2,g3,hI,hN,ak]
theorem I4 {H:AM.Heap} {a:AV} (ha:gq H a = some (.pb b)) (hb:b.length≤1400):∃ ob,Rw (.pb (dP b)) 0 ob∧evT X 37 [a] H = some (.sl H.length 0 (dP b).length 0,H ++ [some ob]):=by
  obtain ⟨c,x,hx⟩:=dS (C:=X) (f:=37) (i:=0) rfl ha (bU 1)
  obtain ⟨code,hc,⟨out,⟨ho,a2,g,ob,h2,h4,hw⟩,hrun⟩⟩:=Ef (m:=0) (c:=c) hb
  obtain ⟨ob',q1,q2⟩:=Ev1.wZ (C:=X) (H:=H) (bn X) (n:=(dP b).length) (l:=dP b) (rest:=[]) Try.func37 hc hx rfl (by simp [bW]) rfl rfl rfl (by
    rw [Y3]
    refine ⟨out,⟨ho,a2,g,ob,?_,h4,hw⟩,hrun⟩
    show aQ X out.fr out.H [.tmp 2] = _
    simp [aQ,h2])
  exact ⟨ob',q1,dA q2⟩
end
end Go.Proofs.Ytbodincpjijdiaa
namespace Go.Proofs.Ytbodincpjijdiaa
open Go.AM
section
variable {c:Nat} {b:List UInt8}
theorem Ls {m:Nat} (hb:b.length≤1400):∃ code,Try.f27.body = some code∧aj (jV fun fr E=>∃ a g ob,au fr 2 = .sl a 0 (fG b).length g∧E[a]? = some (some ob)∧Rw (.pb (fG b)) g ob) X (evT X) 27 m code [(0,.ro c (.pb b) 1)] []:=by
 refine ⟨_,rfl,?_⟩
 obtain ⟨ob1,w1,e1⟩:=I4 (H:=[some (⟨.pb [],0,none,0,true,false,0⟩:AM.Obj)]) (a:=.ro c (.pb b) 1) (b:=b) rfl hb
 have hlt:=Rn b
 have hdl:=I5 b
 have hA:bD X [some (⟨.pb [],0,none,0,true,false,0⟩:AM.Obj),some ob1] 22 (.ro 1 (.pb [120,1]) 0) (.sl 1 0 (dP b).length 0) = some (.sl 2 0 (120 :: 1 :: dP b).length 0,[some (⟨.pb [],0,none,0,true,false,0⟩:AM.Obj),some ob1,some ⟨.pb (120 :: 1 :: dP b),0,none,1,true,false,0⟩]):=NU (H:=[some (⟨.pb [],0,none,0,true,false,0⟩:AM.Obj),some ob1]) (o:=1) rfl w1 (NV (by omega)) (by omega)
 obtain ⟨ob2,w2,hB⟩:=mY (C:=X) (T:=22) (e:=5) (H:=[some (⟨.pb [],0,none,0,true,false,0⟩:AM.Obj),some ob1,some ⟨.pb (120 :: 1 :: dP b),0,none,1,true,false,0⟩]) (o:=2) (g:=0) (ob:=⟨.pb (120 :: 1 :: dP b),0,none,1,true,false,0⟩) (l:=120 :: 1 :: dP b) (m:=be4 (adl b)) (src:=.ro 1 (.pb (be4 (adl b))) 0) kK rV kL bytes5 qC rfl ⟨rfl,rfl,rfl,rfl,rfl⟩ (.inl (by simp [gU,jF,kM])) (by simp [be4];omega)
 have hp:fG b = (120 :: 1 :: dP b) ++ be4 (adl b):=rfl
 have hlen:(fG b).length = (120 :: 1 :: dP b).length + (be4 (adl b)).length:=by rw [hp,List.length_append]
 rw [← hp] at w2
 rw [← hlen] at hB
 simp only [List.length_cons,List.length_nil,List.cons_append,List.nil_append] at e1
 apply aj.seq (fr':=[(0,.ro c (.pb b) 1)]) (H':=[some (⟨.pb [],0,none,0,true,false,0⟩:AM.Obj)])
 ·(refine ⟨0,?_⟩;simp (maxSteps:=2000000) -implicitDefEqProofs [-getElem?_pos,go_sem,eqV,ah,ak,rowOf,emY])
 generalize hr0:some (⟨.pb [],0,none,0,true,false,0⟩:AM.Obj) = r0 at *
 generalize hr1:some (⟨.pb (120 :: 1 :: dP b),0,none,1,true,false,0⟩:AM.Obj) = r1 at *
 have f3:((adl b:Nat):Int).fdiv 16777216 = ((adl b / 16777216:Nat):Int):=by rw [Int.fdiv_eq_ediv_of_nonneg _ (by omega)];omega
 have f2:((adl b:Nat):Int).fdiv 65536 = ((adl b / 65536:Nat):Int):=by rw [Int.fdiv_eq_ediv_of_nonneg _ (by omega)];omega
 have f1:((adl b:Nat):Int).fdiv 256 = ((adl b / 256:Nat):Int):=by rw [Int.fdiv_eq_ediv_of_nonneg _ (by omega)];omega
 have f3':((adl b:Nat):Int) / 16777216 = ((adl b / 16777216:Nat):Int):=by omega
 have f2':((adl b:Nat):Int) / 65536 = ((adl b / 65536:Nat):Int):=by omega
 have f1':((adl b:Nat):Int) / 256 = ((adl b / 256:Nat):Int):=by omega
 have g3:=byte_of (adl b / 16777216)
 have g2:=byte_of (adl b / 65536)
 have g1:=byte_of (adl b / 256)
 have g0:=byte_of (adl b)
 have hb4:=fun H=>aaT H (adl b)
 apply aj.seq (fr':=[(0,.ro c (.pb b) 1),(3,.sl 2 0 (120 :: 1 :: dP b).length 0)]) (H':=[r0,some ob1,r1])
 ·generalize (120 :: 1 :: dP b).length = N3 at *
  generalize (dP b).length = N at *
  generalize adl b = s at *
  (refine ⟨0,?_⟩;simp (maxSteps:=2000000) -implicitDefEqProofs [-getElem?_pos,go_sem,eqV,ah,VL,e1,hA,ak])
 have hs:=Um (H:=[r0,some ob1,r1]) (a:=.ro c (.pb b) 1) (l:=b) rfl (by omega)
 apply aj.seq (fr':=[(3,.sl 2 0 (120 :: 1 :: dP b).length 0),(4,.int .u32 (adl b:Nat))]) (H':=[r0,some ob1,r1])
 ·generalize (120 :: 1 :: dP b).length = N3 at *
  generalize adl b = s at *
  (refine ⟨0,?_⟩;simp (maxSteps:=2000000) -implicitDefEqProofs [-getElem?_pos,go_sem,eqV,ah,hs])
 refine aj.of (o:=⟨.ret,[(2,.sl 2 0 (fG b).length (0 + 1))],AM.upd [r0,some ob1,r1] 2 (some ob2)⟩) ?_ ⟨rfl,2,_,ob2,rfl,rfl,w2⟩
 refine ⟨0,?_⟩
 generalize (120 :: 1 :: dP b).length = N at *
 generalize (fG b).length = N2 at *
 generalize be4 (adl b) = q at *
 generalize (UInt8.ofNat (adl b / 16777216)).toNat = y3 at *
 generalize (UInt8.ofNat (adl b / 65536)).toNat = y2 at *
 generalize (UInt8.ofNat (adl b / 256)).toNat = y1 at *
 generalize (UInt8.ofNat (adl b)).toNat = y0 at *
 generalize adl b / 16777216 = z3 at *
 generalize adl b / 65536 = z2 at *
 generalize adl b / 256 = z1 at *
 generalize adl b = s at *
 simp (maxSteps:=2000000) -implicitDefEqProofs [-getElem?_pos,go_sem,eqV,ah,f3,f2,f1,f3',f2',f1',g3,g2,g1,g0,hb4,hB,ak]
theorem Ro {H:AM.Heap} {a:AV} (ha:gq H a = some (.pb b)) (hb:b.length≤1400):∃ ob,Rw (.pb (fG b)) 0 ob∧evT X 27 [a] H = some (.sl H.length 0 (fG b).length 0,H ++ [some ob]):=by
 obtain ⟨c,x,hx⟩:=dS (C:=X) (f:=27) (i:=0) rfl ha (bU 1)
 obtain ⟨code,hc,⟨out,⟨ho,a2,g,ob,h2,h4,hw⟩,hrun⟩⟩:=Ls (m:=0) (c:=c) hb
 obtain ⟨ob',q1,q2⟩:=Ev1.wZ (C:=X) (H:=H) (bn X) (n:=(fG b).length) (l:=fG b) (rest:=[]) Try.func27 hc hx rfl (by simp [bW]) rfl rfl rfl (by
  rw [YZ]
  refine ⟨out,⟨ho,a2,g,ob,?_,h4,hw⟩,hrun⟩
  show aQ X out.fr out.H [.tmp 2] = _
  simp [aQ,h2])
 exact ⟨ob',q1,dA q2⟩
end
end Go.Proofs.Ytbodincpjijdiaa
namespace Go.Proofs.Ytbodincpjijdiaa
open Go.AM
theorem aaU (n:Nat):leB 3 n = [UInt8.ofNat n,UInt8.ofNat (n / 256),UInt8.ofNat (n / 65536)]:=by
  have e:∀ k:Nat,UInt8.ofNat (k % 256) = UInt8.ofNat k:=fun k=>UInt8.toNat_inj.1 (by rw [UInt8.toNat_ofNat',UInt8.toNat_ofNat'];omega)
  simp only [leB,e,Nat.div_div_eq_div_mul]
theorem ajD (H:AM.Heap) (y0 y1 y2 y3 y4 y5 y6:UInt8):bP X H 22 7 [(0,.int .u8 y0.toNat),(1,.int .u8 y1.toNat),(2,.int .u8 y2.toNat),(3,.int .u8 y3.toNat),(4,.int .u8 y4.toNat),(5,.int .u8 y5.toNat),(6,.int .u8 y6.toNat)] = some (.ro 1 (.pb [y0,y1,y2,y3,y4,y5,y6]) 0,H):=by
  have h:∀ y:UInt8,(y.toNat:Int) < 256:=fun y=>by have:=y.toNat_lt;omega
  have h0:=h y0;have h1:=h y1;have h2:=h y2;have h3:=h y3;have h4:=h y4;have h5:=h y5;have h6:=h y6
  simp [bP,jk,o9,mkRow,je,dK,cellsOf,scalars,scalar,aJ,ids,bQ,tags,dU,h0,h1,h2,h3,h4,h5,h6]
section
variable {c:Nat} {B:List UInt8}
def fQ (c:Nat) (B:List UInt8) (s mo th:Nat) (v:AV) (i:Nat):AM.Frame:=[(0,.ro c (.pb B) 1),(1,.int .u8 (s:Nat)),(2,.int .i64 (mo:Nat)),(3,.int .i64 (th:Nat)),(11,v),(12,.int .i64 (i:Nat))]
theorem aaV {m s mo th i:Nat} {v:AV} {tl:AM.Frame} {E:AM.Heap} (hc:c ≠ 0) (hi:i≤B.length) (hb:B.length≤100000) (hm:mo≤16777215):∃ code,((Try.f11.body).bind (aF [1,1,1,0,1,0,0,1,0,0])) = some code∧Run X (evT X) 11 m code (fQ c B s mo th v i ++ tl) E ⟨.normal,fQ c B s mo th v i ++ [(13,.ro 2 (.pb ((B.drop i).take mo)) 1)],E⟩:=by
  refine ⟨_,rfl,?_⟩
  have w1:IntKind.i64.wrap ((i:Int) + (mo:Int)) = ((i + mo:Nat):Int):=by rw [wrap_i64 (by omega) (by omega)];omega
  have hmm:jf false (.int .i64 ((i + mo:Nat):Int)) [.int .i64 (B.length:Nat)] = some (.int .i64 (min (i + mo) B.length:Nat)):=by
    by_cases h:(B.length:Int) < ((i + mo:Nat):Int)
    · rw [Nat.min_eq_right (by omega)]
      simp only [jf,h,if_true]
      simp
    · rw [Nat.min_eq_left (by omega)]
      simp only [jf,h,if_false]
      simp
  have hk:min (i + mo) B.length≤B.length:=Nat.min_le_right _ _
  have hik:i≤min (i + mo) B.length:=by omega
  have hkI:((min (i + mo) B.length:Nat):Int)≤(B.length:Int):=by omega
  have ajE:(i:Int)≤((min (i + mo) B.length:Nat):Int):=by omega
  have hz:iw (.pb B) i (min (i + mo) B.length - i) = some (.pb ((B.drop i).take mo)):=by
    have e1:min (i + mo) B.length - i = min (B.drop i).length mo:=by rw [List.length_drop];omega
    rw [e1]
    simp [iw]
    constructor
    · omega
    · exact Nat.min_comm _ _
  generalize (B.drop i).take mo = P at *
  generalize min (i + mo) B.length = k at *
  generalize i + mo = im at *
  simp only [fQ]
  generalize hL:B.length = L at *
  (refine ⟨0,?_⟩;simp (maxSteps:=2000000) -implicitDefEqProofs [-getElem?_pos,go_sem,eqV,ah,hL,w1,hmm,jq,bound,hk,hik,hkI,ajE,hz,hc,ak])
theorem Xp {m s mo th i:Nat} {v:AV} {P:List UInt8} {E:AM.Heap} (hi:i≤100000) (hP:P.length≤100000):∃ code,((Try.f11.body).bind (aF [1,1,1,0,1,0,0,1,0,1,0])) = some code∧Run X (evT X) 11 m code (fQ c B s mo th v i ++ [(13,.ro 2 (.pb P) 1)]) E ⟨.normal,fQ c B s mo th v (i + P.length) ++ [(13,.ro 2 (.pb P) 1)],E⟩:=by
  refine ⟨_,rfl,?_⟩
  have w1:IntKind.i64.wrap ((i:Int) + (P.length:Int)) = ((i + P.length:Nat):Int):=by rw [wrap_i64 (by omega) (by omega)];omega
  generalize i + P.length = ip at *
  simp only [fQ]
  generalize hL:P.length = L at *
  (refine ⟨0,?_⟩;simp (maxSteps:=2000000) -implicitDefEqProofs [-getElem?_pos,go_sem,eqV,ah,hL,w1])
theorem aaW {m s mo th i:Nat} {v:AV} {P:List UInt8} {E:AM.Heap}:∃ code,((Try.f11.body).bind (aF [1,1,1,0,1,0,0,1,0,1,1,0])) = some code∧Run X (evT X) 11 m code (fQ c B s mo th v i ++ [(13,.ro 2 (.pb P) 1)]) E ⟨.normal,fQ c B s mo th v i ++ [(13,.ro 2 (.pb P) 1),(14,.ro 2 (.pb P) 1)],E⟩:=by
  refine ⟨_,rfl,?_⟩
  simp only [fQ]
  (refine ⟨0,?_⟩;simp (maxSteps:=2000000) -implicitDefEqProofs [-getElem?_pos,go_sem,eqV,ah,ak])
theorem aaX {m s mo th i:Nat} {v:AV} {P:List UInt8} {E:AM.Heap}:∃ code,((Try.f11.body).bind (aF [1,1,1,0,1,0,0,1,0,1,1,1,0])) = some code∧Run X (evT X) 11 m code (fQ c B s mo th v i ++ [(13,.ro 2 (.pb P) 1),(14,.ro 2 (.pb P) 1)]) E ⟨.normal,fQ c B s mo th v i ++ [(13,.ro 2 (.pb P) 1),(14,.ro 2 (.pb P) 1),(15,.int .i64 0)],E⟩:=by
  refine ⟨_,rfl,?_⟩
  simp only [fQ]
  (refine ⟨0,?_⟩;simp (maxSteps:=2000000) -implicitDefEqProofs [-getElem?_pos,go_sem,eqV,ah])
theorem Xq {m s mo th i:Nat} {v:AV} {P:List UInt8} {E:AM.Heap}:∃ code,((Try.f11.body).bind (aF [1,1,1,0,1,0,0,1,0,1,1,1,1,0,0])) = some code∧Run X (evT X) 11 m code (fQ c B s mo th v i ++ [(13,.ro 2 (.pb P) 1),(14,.ro 2 (.pb P) 1),(15,.int .i64 0)]) E ⟨.normal,fQ c B s mo th v i ++ [(13,.ro 2 (.pb P) 1),(14,.ro 2 (.pb P) 1),(15,.int .i64 0),(52,.bool (decide (th≤P.length)))],E⟩:=by
  refine ⟨_,rfl,?_⟩
  simp only [fQ]
  by_cases h:th≤P.length
  · have hI:(th:Int)≤(P.length:Int):=by omega
    rw [decide_eq_true h]
    generalize hL:P.length = L at *
    (refine ⟨0,?_⟩;simp (maxSteps:=2000000) -implicitDefEqProofs [-getElem?_pos,go_sem,eqV,ah,hL,h,hI])
  · have hI:¬ (th:Int)≤(P.length:Int):=by omega
    rw [decide_eq_false h]
    generalize hL:P.length = L at *
    (refine ⟨0,?_⟩;simp (maxSteps:=2000000) -implicitDefEqProofs [-getElem?_pos,go_sem,eqV,ah,hL,h,hI])
theorem Xr {m s mo th i:Nat} {v:AV} {P:List UInt8} {tl:AM.Frame} {E:AM.Heap} {ob:AM.Obj} (e1:evT X 27 [.ro 2 (.pb P) 1] E = some (.sl E.length 0 (fG P).length 0,E ++ [some ob])):∃ code,((Try.f11.body).bind (aF [1,1,1,0,1,0,0,1,0,1,1,1,1,0,1,0,0])) = some code∧Run X (evT X) 11 m code (fQ c B s mo th v i ++ (13,.ro 2 (.pb P) 1) :: (14,.ro 2 (.pb P) 1) :: (15,.int .i64 0) :: tl) E ⟨.normal,fQ c B s mo th v i ++ [(13,.ro 2 (.pb P) 1),(14,.ro 2 (.pb P) 1),(15,.int .i64 0),(16,.sl E.length 0 (fG P).length 0)],E ++ [some ob]⟩:=by
  refine ⟨_,rfl,?_⟩
  simp only [fQ]
  generalize (fG P).length = N at *
  (refine ⟨0,?_⟩;simp (maxSteps:=2000000) -implicitDefEqProofs [-getElem?_pos,go_sem,eqV,ah,e1,ak])
theorem Xt {m s mo th i z n:Nat} {v:AV} {P:List UInt8} {E:AM.Heap} {ob:AM.Obj} (hz:E[z]? = some (some ob)) (hg:ob.g = 0):∃ code,((Try.f11.body).bind (aF [1,1,1,0,1,0,0,1,0,1,1,1,1,0,1,0,1,0])) = some code∧Run X (evT X) 11 m code (fQ c B s mo th v i ++ [(13,.ro 2 (.pb P) 1),(14,.ro 2 (.pb P) 1),(15,.int .i64 0),(16,.sl z 0 n 0)]) E ⟨.normal,fQ c B s mo th v i ++ [(13,.ro 2 (.pb P) 1),(14,.ro 2 (.pb P) 1),(15,.int .i64 0),(16,.sl z 0 n 0),(59,.bool (decide (n < P.length)))],E⟩:=by
  refine ⟨_,rfl,?_⟩
  simp only [fQ]
  by_cases h:n < P.length
  · have hI:(n:Int) < (P.length:Int):=by omega
    rw [decide_eq_true h]
    generalize hL:P.length = L at *
    (refine ⟨0,?_⟩;simp (maxSteps:=2000000) -implicitDefEqProofs [-getElem?_pos,go_sem,eqV,ah,hL,hz,hg,h,hI])
  · have hI:¬ (n:Int) < (P.length:Int):=by omega
    rw [decide_eq_false h]
    generalize hL:P.length = L at *
    (refine ⟨0,?_⟩;simp (maxSteps:=2000000) -implicitDefEqProofs [-getElem?_pos,go_sem,eqV,ah,hL,hz,hg,h,hI])
theorem Xu {m s mo th i z n:Nat} {v:AV} {P:List UInt8} {tl:AM.Frame} {E:AM.Heap}:∃ code,((Try.f11.body).bind (aF [1,1,1,0,1,0,0,1,0,1,1,1,1,0,1,0,1,1,0])) = some code∧Run X (evT X) 11 m code (fQ c B s mo th v i ++ (13,.ro 2 (.pb P) 1) :: (14,.ro 2 (.pb P) 1) :: (15,.int .i64 0) :: (16,.sl z 0 n 0) :: tl) E ⟨.normal,fQ c B s mo th v i ++ [(14,.sl z 0 n 0),(15,.int .i64 (P.length:Nat))],E⟩:=by
  refine ⟨_,rfl,?_⟩
  simp only [fQ]
  generalize hL:P.length = L at *
  (refine ⟨0,?_⟩;simp (maxSteps:=2000000) -implicitDefEqProofs [-getElem?_pos,go_sem,eqV,ah,hL,ak])
def SrF (c:Nat) (B:List UInt8) (s mo th:Nat) (v:AV) (i:Nat) (pv:AV) (a:Nat) (fr:AM.Frame):Prop :=
  au fr 0 = .ro c (.pb B) 1∧au fr 1 = .int .u8 (s:Nat)∧au fr 2 = .int .i64 (mo:Nat)∧au fr 3 = .int .i64 (th:Nat)∧au fr 11 = v∧au fr 12 = .int .i64 (i:Nat)∧au fr 14 = pv∧au fr 15 = .int .i64 (a:Nat)
theorem UD {m s mo th i:Nat} {v:AV} {P:List UInt8} {E:AM.Heap} (hp:P.length≤1400):∃ R pv fr,SqB (E ++ R) pv (sqP th P).1∧(∀ z n g,pv = .sl z 0 n g→z = E.length)∧SrF c B s mo th v i pv (sqP th P).2 fr∧∃ code,((Try.f11.body).bind (aF [1,1,1,0,1,0,0,1,0,1,1,1,1,0])) = some code∧Run X (evT X) 11 m code (fQ c B s mo th v i ++ [(13,.ro 2 (.pb P) 1),(14,.ro 2 (.pb P) 1),(15,.int .i64 0)]) E ⟨.normal,fr,E ++ R⟩:=by
  have h10:=Xq (m:=m) (c:=c) (B:=B) (s:=s) (mo:=mo) (th:=th) (i:=i) (v:=v) (P:=P) (E:=E)
  unfold sqP
  by_cases h1:th≤P.length
  · rw [decide_eq_true h1] at h10
    obtain ⟨ob,w,e1⟩:=Ro (H:=E) (a:=.ro 2 (.pb P) 1) (b:=P) rfl hp
    have h11:=Xr (m:=m) (c:=c) (B:=B) (s:=s) (mo:=mo) (th:=th) (i:=i) (v:=v) (tl:=[(52,.bool true)]) e1
    have hz:(E ++ [some ob])[E.length]? = some (some ob):=List.getElem?_concat_length
    have h12:=Xt (m:=m) (c:=c) (B:=B) (s:=s) (mo:=mo) (th:=th) (i:=i) (n:=(fG P).length) (v:=v) (P:=P) hz w.g
    by_cases h2:(fG P).length < P.length
    · rw [if_pos ⟨h1,h2⟩]
      rw [decide_eq_true h2] at h12
      have h13:=Xu (m:=m) (c:=c) (B:=B) (s:=s) (mo:=mo) (th:=th) (i:=i) (z:=E.length) (n:=(fG P).length) (v:=v) (P:=P) (tl:=[(59,.bool true)]) (E:=E ++ [some ob])
      refine ⟨[some ob],.sl E.length 0 (fG P).length 0,fQ c B s mo th v i ++ [(14,.sl E.length 0 (fG P).length 0),(15,.int .i64 (P.length:Nat))],.inr ⟨E.length,ob,rfl,hz,w⟩,fun z n g h=>by cases h;rfl,?_,_,rfl,?_⟩
      rotate_left
      · apply Run.seq (piece h10 _ rfl)
        refine Run.cond (d:=true) (by simp [fQ,aC,au]) ?_
        apply Run.seq (piece h11 _ rfl)
        apply Run.seq (piece h12 _ rfl)
        refine Run.cond (d:=true) (by simp [fQ,aC,au]) ?_
        exact piece h13 _ rfl
      · simp [SrF,fQ,au]
    · rw [if_neg (fun h=>h2 h.2)]
      rw [decide_eq_false h2] at h12
      refine ⟨[some ob],.ro 2 (.pb P) 1,fQ c B s mo th v i ++ [(13,.ro 2 (.pb P) 1),(14,.ro 2 (.pb P) 1),(15,.int .i64 0),(16,.sl E.length 0 (fG P).length 0),(59,.bool false)],.inl rfl,(fun z n g h=>by cases h),?_,_,rfl,?_⟩
      · simp [SrF,fQ,au]
      · apply Run.seq (piece h10 _ rfl)
        refine Run.cond (d:=true) (by simp [fQ,aC,au]) ?_
        apply Run.seq (piece h11 _ rfl)
        apply Run.seq (piece h12 _ rfl)
        exact Run.cond (d:=false) (by simp [fQ,aC,au]) ⟨0,rfl⟩
  · rw [if_neg (fun h=>h1 h.1)]
    rw [decide_eq_false h1] at h10
    refine ⟨[],.ro 2 (.pb P) 1,fQ c B s mo th v i ++ [(13,.ro 2 (.pb P) 1),(14,.ro 2 (.pb P) 1),(15,.int .i64 0),(52,.bool false)],.inl rfl,(fun z n g h=>by cases h),?_,_,rfl,?_⟩
    · simp [SrF,fQ,au]
    · rw [List.append_nil]
      apply Run.seq (piece h10 _ rfl)
      exact Run.cond (d:=false) (by simp [fQ,aC,au]) ⟨0,rfl⟩
theorem Xv {m s mo th i a n N g:Nat} {v pv:AV} {x:List UInt8} {fr:AM.Frame} {E E':AM.Heap} (hs:s < 256) (ha:a≤100000) (hx:x.length≤100000) (hF:SrF c B s mo th v i pv a fr) (hN:SqB E pv x) (hA:bD X E 22 v (.ro 1 (.pb (leB 3 x.length ++ [UInt8.ofNat s] ++ leB 3 a)) 0) = some (.sl N 0 n g,E')):∃ code,((Try.f11.body).bind (aF [1,1,1,0,1,0,0,1,0,1,1,1,1,1,0])) = some code∧Run X (evT X) 11 m code (fr) E ⟨.normal,fQ c B s mo th (.sl N 0 n g) i ++ [(14,pv)],E'⟩:=by
  refine ⟨_,rfl,?_⟩
  obtain ⟨f0,f1,f2,f3,f11,f12,f14,f15⟩:=hF
  have hbs:=fun H=>ajD H (UInt8.ofNat x.length) (UInt8.ofNat (x.length / 256)) (UInt8.ofNat (x.length / 65536)) (UInt8.ofNat s) (UInt8.ofNat a) (UInt8.ofNat (a / 256)) (UInt8.ofNat (a / 65536))
  have e7:leB 3 x.length ++ [UInt8.ofNat s] ++ leB 3 a = [UInt8.ofNat x.length,UInt8.ofNat (x.length / 256),UInt8.ofNat (x.length / 65536),UInt8.ofNat s,UInt8.ofNat a,UInt8.ofNat (a / 256),UInt8.ofNat (a / 65536)]:=by rw [aaU,aaU];rfl
  rw [e7] at hA
  have b0:=byte_of x.length
  have b1:=byte_of (x.length / 256)
  have b2:=byte_of (x.length / 65536)
  have b4:=byte_of a
  have b5:=byte_of (a / 256)
  have b6:=byte_of (a / 65536)
  have hs1:(UInt8.ofNat s).toNat = s:=by rw [UInt8.toNat_ofNat'];omega
  rw [hs1] at hbs
  have d1:((x.length:Nat):Int).fdiv 256 = ((x.length / 256:Nat):Int):=by rw [Int.fdiv_eq_ediv_of_nonneg _ (by omega)];omega
  have d2:((x.length:Nat):Int).fdiv 65536 = ((x.length / 65536:Nat):Int):=by rw [Int.fdiv_eq_ediv_of_nonneg _ (by omega)];omega
  have d1':((x.length:Nat):Int) / 256 = ((x.length / 256:Nat):Int):=by omega
  have d2':((x.length:Nat):Int) / 65536 = ((x.length / 65536:Nat):Int):=by omega
  have d3:((a:Nat):Int).fdiv 256 = ((a / 256:Nat):Int):=by rw [Int.fdiv_eq_ediv_of_nonneg _ (by omega)];omega
  have d4:((a:Nat):Int).fdiv 65536 = ((a / 65536:Nat):Int):=by rw [Int.fdiv_eq_ediv_of_nonneg _ (by omega)];omega
  have d3':((a:Nat):Int) / 256 = ((a / 256:Nat):Int):=by omega
  have d4':((a:Nat):Int) / 65536 = ((a / 65536:Nat):Int):=by omega
  generalize hy1:[UInt8.ofNat x.length,UInt8.ofNat (x.length / 256),UInt8.ofNat (x.length / 65536),UInt8.ofNat s,UInt8.ofNat a,UInt8.ofNat (a / 256),UInt8.ofNat (a / 65536)] = q at *
  generalize (UInt8.ofNat x.length).toNat = y0 at *
  generalize (UInt8.ofNat (x.length / 256)).toNat = y1 at *
  generalize (UInt8.ofNat (x.length / 65536)).toNat = y2 at *
  generalize (UInt8.ofNat a).toNat = y4 at *
  generalize (UInt8.ofNat (a / 256)).toNat = y5 at *
  generalize (UInt8.ofNat (a / 65536)).toNat = y6 at *
  generalize x.length / 256 = z1 at *
  generalize x.length / 65536 = z2 at *
  generalize a / 256 = z3 at *
  generalize a / 65536 = z4 at *
  rcases hN with rfl | ⟨z,ob,rfl,h1,h2⟩
  · simp only [fQ]
    generalize hL:x.length = L at *
    (refine ⟨0,?_⟩;simp (maxSteps:=2000000) -implicitDefEqProofs [-getElem?_pos,go_sem,eqV,ah,f0,f1,f2,f3,f11,f12,f14,f15,hL,b0,b1,b2,b4,b5,b6,d1,d2,d1',d2',d3,d4,d3',d4',hbs,hA,ak])
  · have hg:=h2.g
    simp only [fQ]
    generalize hL:x.length = L at *
    (refine ⟨0,?_⟩;simp (maxSteps:=2000000) -implicitDefEqProofs [-getElem?_pos,go_sem,eqV,ah,f0,f1,f2,f3,f11,f12,f14,f15,hL,h1,hg,b0,b1,b2,b4,b5,b6,d1,d2,d1',d2',d3,d4,d3',d4',hbs,hA,ak])
theorem Xw {m s mo th i N n g:Nat} {v pv:AV} {E E':AM.Heap} (hA:bD X E 22 v pv = some (.sl N 0 n g,E')):∃ code,((Try.f11.body).bind (aF [1,1,1,0,1,0,0,1,0,1,1,1,1,1,1,0])) = some code∧Run X (evT X) 11 m code (fQ c B s mo th v i ++ [(14,pv)]) E ⟨.normal,fQ c B s mo th (.sl N 0 n g) i,E'⟩:=by
  refine ⟨_,rfl,?_⟩
  simp only [fQ]
  (refine ⟨0,?_⟩;simp (maxSteps:=2000000) -implicitDefEqProofs [-getElem?_pos,go_sem,eqV,ah,hA,ak])
theorem Xx {m s mo th i:Nat} {v:AV} {E:AM.Heap}:∃ code,((Try.f11.body).bind (aF [1,1,1,0,1,0,0,1,0,1,1,1,1,1,1,1])) = some code∧Run X (evT X) 11 m code (fQ c B s mo th v i) E ⟨.normal,fQ c B ((s + 1) % 256) mo th v i,E⟩:=by
  refine ⟨_,rfl,?_⟩
  have w1:IntKind.u8.wrap ((s:Int) + 1) = (((s + 1) % 256:Nat):Int):=by
    show ((s:Int) + 1) % 256 = _
    omega
  generalize (s + 1) % 256 = s1 at *
  simp only [fQ]
  (refine ⟨0,?_⟩;simp (maxSteps:=2000000) -implicitDefEqProofs [-getElem?_pos,go_sem,eqV,ah,w1])
end
end Go.Proofs.Ytbodincpjijdiaa
namespace Go.Proofs.Ytbodincpjijdiaa
open Go.AM
section
variable {c:Nat} {B:List UInt8}
theorem Rq {m s mo th i o g:Nat} {l:List UInt8} {ob:AM.Obj} {tl:AM.Frame} {E:AM.Heap} (hc:c ≠ 0) (hb:B.length≤1400) (hi:i≤B.length) (hl:l.length≤100000) (hs:s < 256) (hm:mo≤16777215) (ho:E[o]? = some (some ob)) (hw:Rw (.pb l) g ob) (hne:0 < ((B.drop i).take mo).length) :
    ∃ o' g' ob' E',E'[o']? = some (some ob')∧Rw (.pb (l ++ sqH s (sqP th ((B.drop i).take mo)))) g' ob'∧∃ code,((Try.f11.body).bind (aF [1,1,1,0,1,0,0,1])) = some code∧Run X (evT X) 11 m code (fQ c B s mo th (.sl o 0 l.length g) i ++ tl) E ⟨.normal,fQ c B ((s + 1) % 256) mo th (.sl o' 0 (l ++ sqH s (sqP th ((B.drop i).take mo))).length g') (i + ((B.drop i).take mo).length),E'⟩:=by
  have h6:=aaV (m:=m) (s:=s) (mo:=mo) (th:=th) (v:=.sl o 0 l.length g) (tl:=tl) (E:=E) hc hi (by omega) hm
  have hpl:((B.drop i).take mo).length≤1400:=by rw [List.length_take,List.length_drop];omega
  generalize (B.drop i).take mo = P at *
  have h7:=Xp (m:=m) (c:=c) (B:=B) (s:=s) (mo:=mo) (th:=th) (i:=i) (v:=.sl o 0 l.length g) (P:=P) (E:=E) (by omega) (by omega)
  have h8:=aaW (m:=m) (c:=c) (B:=B) (s:=s) (mo:=mo) (th:=th) (i:=i + P.length) (v:=.sl o 0 l.length g) (P:=P) (E:=E)
  have h9:=aaX (m:=m) (c:=c) (B:=B) (s:=s) (mo:=mo) (th:=th) (i:=i + P.length) (v:=.sl o 0 l.length g) (P:=P) (E:=E)
  obtain ⟨R,pv,fr,hpv,hz,hF,hp⟩:=UD (m:=m) (c:=c) (B:=B) (s:=s) (mo:=mo) (th:=th) (i:=i + P.length) (v:=.sl o 0 l.length g) (P:=P) (E:=E) hpl
  have hx:=GN (th:=th) (p:=P)
  have hxn:(sqP th P).1 ≠ []:=by
    unfold sqP
    split
    · unfold fG;simp
    · intro e
      simp only at e
      rw [e] at hne
      simp at hne
  unfold sqH
  generalize sqP th P = x at *
  have ho1:(E ++ R)[o]? = some (some ob):=by rw [List.getElem?_append_left (eY ho)];exact ho
  generalize E ++ R = E1 at *
  have l7:(leB 3 x.1.length ++ [UInt8.ofNat s] ++ leB 3 x.2).length = 7:=by simp [vU]
  obtain ⟨ob3,w3,hA3⟩:=mY (C:=X) (T:=22) (e:=5) (H:=E1) (o:=o) (g:=g) (ob:=ob) (l:=l) (m:=leB 3 x.1.length ++ [UInt8.ofNat s] ++ leB 3 x.2) (src:=.ro 1 (.pb (leB 3 x.1.length ++ [UInt8.ofNat s] ++ leB 3 x.2)) 0) kK rV kL bytes5 qC ho1 hw (.inl (by simp [gU,jF,kM])) (by rw [l7];omega)
  have h14:=Xv (m:=m) hs (by omega) (by omega) hF hpv hA3
  have hzo:∀ z n g,pv = .sl z 0 n g→z ≠ o:=fun z n g h e=>by
    have:=hz z n g h
    have:=eY ho
    omega
  have k3:(AM.upd E1 o (some ob3))[o]? = some (some ob3):=setAt ho1
  have Xy:SqB (AM.upd E1 o (some ob3)) pv x.1:=by
    rcases hpv with rfl | ⟨z,obz,rfl,q1,q2⟩
    · exact .inl rfl
    · have:=hzo z _ _ rfl
      exact .inr ⟨z,obz,rfl,zF q1 (Ne.symm this),q2⟩
  generalize AM.upd E1 o (some ob3) = E2 at *
  have hn3:(l ++ (leB 3 x.1.length ++ [UInt8.ofNat s] ++ leB 3 x.2)).length = l.length + (leB 3 x.1.length ++ [UInt8.ofNat s] ++ leB 3 x.2).length:=List.length_append
  obtain ⟨ob5,w5,hA5⟩:=mY (C:=X) (T:=22) (e:=5) (H:=E2) (o:=o) (g:=g + 1) (ob:=ob3) (l:=l ++ (leB 3 x.1.length ++ [UInt8.ofNat s] ++ leB 3 x.2)) (m:=x.1) (src:=pv) kK rV kL bytes5 qC k3 w3 (.inl Xy.src) (by rw [hn3,l7];omega)
  rw [hn3] at hA5
  have h15:=Xw (m:=m) (c:=c) (B:=B) (s:=s) (mo:=mo) (th:=th) (i:=i + P.length) hA5
  have h16:=Xx (m:=m) (c:=c) (B:=B) (s:=s) (mo:=mo) (th:=th) (i:=i + P.length) (v:=.sl o 0 (l.length + (leB 3 x.1.length ++ [UInt8.ofNat s] ++ leB 3 x.2).length + x.1.length) (g + 1 + 1)) (E:=AM.upd E2 o (some ob5))
  have hout:l ++ (leB 3 x.1.length ++ [UInt8.ofNat s] ++ leB 3 x.2 ++ x.1) = l ++ (leB 3 x.1.length ++ [UInt8.ofNat s] ++ leB 3 x.2) ++ x.1:=by simp
  have hlen5:(l ++ (leB 3 x.1.length ++ [UInt8.ofNat s] ++ leB 3 x.2) ++ x.1).length = l.length + (leB 3 x.1.length ++ [UInt8.ofNat s] ++ leB 3 x.2).length + x.1.length:=by rw [List.length_append,hn3]
  rw [hout]
  refine ⟨o,g + 1 + 1,ob5,AM.upd E2 o (some ob5),setAt k3,w5,_,rfl,?_⟩
  rw [hlen5]
  refine Run.block ?_ (by simp)
  apply Run.seq (piece h6 _ rfl)
  apply Run.seq (piece h7 _ rfl)
  apply Run.seq (piece h8 _ rfl)
  apply Run.seq (piece h9 _ rfl)
  apply Run.seq (piece hp _ rfl)
  apply Run.seq (piece h14 _ rfl)
  apply Run.seq (piece h15 _ rfl)
  exact piece h16 _ rfl
end
end Go.Proofs.Ytbodincpjijdiaa
namespace Go.Proofs.Ytbodincpjijdiaa
open Go.AM
section
variable {c:Nat} {B:List UInt8}
theorem UE {m s:Nat} {mo th:Int} (h:uJ mo th):∃ code,Try.f11.body = some code∧aj (jV (sqX ([],0,2))) X (evT X) 11 m code [(0,.ro c (.pb B) 1),(1,.int .u8 (s:Nat)),(2,.int .i64 mo),(3,.int .i64 th)] []:=by
  refine ⟨_,rfl,?_⟩
  refine aj.of (o:=⟨.ret,[(8,.sl 1 0 0 0),(9,.int .u8 0),(10,.int .i64 2)],[some mD,some mD]⟩) ?_ ⟨rfl,1,0,mD,rfl,rfl,rfl,rfl,⟨rfl,rfl,rfl,rfl,rfl⟩⟩
  refine ⟨0,?_⟩
  unfold uJ at h
  simp only [mD]
  by_cases h1:mo < 1
  · simp (maxSteps:=2000000) -implicitDefEqProofs [-getElem?_pos,go_sem,eqV,ah,h1,ak,rowOf,oP]
  · by_cases h2:16777215 < mo
    · simp (maxSteps:=2000000) -implicitDefEqProofs [-getElem?_pos,go_sem,eqV,ah,h1,h2,ak,rowOf,oP]
    · by_cases h3:th < 0
      · simp (maxSteps:=2000000) -implicitDefEqProofs [-getElem?_pos,go_sem,eqV,ah,h1,h2,h3,ak,rowOf,oP]
      · have h4:16777215 < th:=by omega
        simp (maxSteps:=2000000) -implicitDefEqProofs [-getElem?_pos,go_sem,eqV,ah,h1,h2,h3,h4,ak,rowOf,oP]
theorem Rt {m s mo th:Nat} (hc:c = 0→B = []) (hb:B.length≤1000) (hs:s < 256) (h1:1≤mo) (h2:mo≤16777215) (h3:th≤16777215):∃ code,Try.f11.body = some code∧aj (jV (sqX ((sqG mo th B.length B s []).1,(sqG mo th B.length B s []).2,0))) X (evT X) 11 m code [(0,.ro c (.pb B) 1),(1,.int .u8 (s:Nat)),(2,.int .i64 (mo:Nat)),(3,.int .i64 (th:Nat))] []:=by
  refine ⟨_,rfl,?_⟩
  have a1:¬ (mo:Int) < 1:=by omega
  have a2:¬ (16777215:Int) < (mo:Int):=by omega
  have a3:¬ (th:Int) < 0:=by omega
  have a4:¬ (16777215:Int) < (th:Int):=by omega
  apply aj.seq (fr':=[(0,.ro c (.pb B) 1),(1,.int .u8 (s:Nat)),(2,.int .i64 (mo:Nat)),(3,.int .i64 (th:Nat))]) (H':=[some mD])
  · simp only [mD]
    (refine ⟨0,?_⟩;simp (maxSteps:=2000000) -implicitDefEqProofs [-getElem?_pos,go_sem,eqV,ah,ak,rowOf,oP])
  apply aj.assoc
  apply aj.seq (fr':=[(0,.ro c (.pb B) 1),(1,.int .u8 (s:Nat)),(2,.int .i64 (mo:Nat)),(3,.int .i64 (th:Nat)),(30,.bool false)]) (H':=[some mD])
  · generalize (mo:Int) = mI at *
    generalize (th:Int) = tI at *
    (refine ⟨0,?_⟩;simp (maxSteps:=2000000) -implicitDefEqProofs [-getElem?_pos,go_sem,eqV,ah,a1,a2,a3,a4])
  apply aj.seq (fr':=[(0,.ro c (.pb B) 1),(1,.int .u8 (s:Nat)),(2,.int .i64 (mo:Nat)),(3,.int .i64 (th:Nat)),(30,.bool false)]) (H':=[some mD])
  · exact Run.cond (d:=false) (by simp [aC,au]) ⟨0,rfl⟩
  have hw0:Rw (.pb []) 0 mD:=⟨rfl,rfl,rfl,rfl,rfl⟩
  have hob:([some mD,some mD]:AM.Heap)[1]? = some (some mD):=rfl
  apply aj.seq (fr':=[(0,.ro c (.pb B) 1),(1,.int .u8 (s:Nat)),(2,.int .i64 (mo:Nat)),(3,.int .i64 (th:Nat)),(11,.sl 1 0 0 0)]) (H':=[some mD,some mD])
  · simp only [mD]
    (refine ⟨0,?_⟩;simp (maxSteps:=2000000) -implicitDefEqProofs [-getElem?_pos,go_sem,eqV,ah,ak,rowOf,oP])
  generalize mD = ob0 at *
  generalize ([some ob0,some ob0]:AM.Heap) = E0 at *
  apply aj.assoc
  apply aj.seq (fr':=fQ c B s mo th (.sl 1 0 0 0) 0) (H':=E0)
  · simp only [fQ]
    (refine ⟨0,?_⟩;simp (maxSteps:=2000000) -implicitDefEqProofs [-getElem?_pos,go_sem,eqV,ah])
  refine aj.andThen (P:=fun fr E=>∃ o g ob l s',au fr 11 = .sl o 0 l.length g∧au fr 1 = .int .u8 (s':Nat)∧E[o]? = some (some ob)∧Rw (.pb l) g ob∧sqG mo th B.length B s [] = (l,s')) ?_ ?_
  · apply aj.block
    refine aj.kJ (I:=fun k fr E=>∃ i s' o g ob l,i≤B.length∧B.length - i≤k∧s' < 256∧l.length + 8 * (B.length - i)≤8000∧fr = fQ c B s' mo th (.sl o 0 l.length g) i∧E[o]? = some (some ob)∧Rw (.pb l) g ob∧sqG mo th k (B.drop i) s' l = sqG mo th B.length B s []) ?_ (k:=B.length) ⟨0,s,1,0,ob0,[],by omega,by omega,hs,by rw [List.length_nil];omega,rfl,hob,hw0,rfl⟩
    rintro k fr E ⟨i,s',o,g,ob,l,hi,hk,hs',hl,rfl,ho,hw,he⟩
    by_cases hB:i = B.length
    · rw [hB,List.drop_length,NW] at he
      have hnI:¬ (i:Int) < (B.length:Int):=by omega
      have hnN:¬ i < B.length:=by omega
      refine aj.of (o:=⟨.exit 0,fQ c B s' mo th (.sl o 0 l.length g) i ++ [(34,.bool false)],E⟩) ?_ (.inr ⟨by simp,rfl,o,g,ob,l,s',by simp [fQ,au],by simp [fQ,au],ho,hw,he.symm⟩)
      refine ⟨0,?_⟩
      simp only [fQ]
      generalize l.length = N at *
      generalize hL:B.length = L at *
      simp (maxSteps:=2000000) -implicitDefEqProofs [-getElem?_pos,go_sem,eqV,ah,hL,hnI,hnN]
    · cases k with
      | zero=>omega
      | succ k =>
        have hlt:i < B.length:=by omega
        have iT:(i:Int) < (B.length:Int):=by omega
        rw [sqG,if_neg (by rw [List.length_drop];omega)] at he
        have hc0:c ≠ 0:=fun h=>by rw [hc h] at hlt;simp at hlt
        have ht:((B.drop i).take mo).length = min mo (B.length - i):=by rw [List.length_take,List.length_drop]
        have hd:B.drop (i + ((B.drop i).take mo).length) = (B.drop i).drop mo:=by
          rw [ht,← List.drop_drop,Nat.min_comm]
          have:=I7 (B.drop i) mo
          rwa [List.length_drop] at this
        have hHl:=NY (s:=s') (th:=th) (p:=(B.drop i).take mo)
        obtain ⟨o2,g2,ob2,E2,q1,q2,q3⟩:=Rq (m:=m) (th:=th) (tl:=[(34,.bool true)]) hc0 (by omega) hi (by omega) hs' h2 ho hw (by omega)
        rw [← hd] at he
        refine aj.of (o:=⟨.normal,_,E2⟩) ?_ (.inl ⟨rfl,k,by omega,i + ((B.drop i).take mo).length,(s' + 1) % 256,o2,g2,ob2,l ++ sqH s' (sqP th ((B.drop i).take mo)),by omega,by omega,by omega,by rw [List.length_append];omega,rfl,q1,q2,he⟩)
        apply Run.seq (fr':=fQ c B s' mo th (.sl o 0 l.length g) i ++ [(34,.bool true)]) (H':=E)
        · apply Run.seq (fr':=fQ c B s' mo th (.sl o 0 l.length g) i ++ [(34,.bool true)]) (H':=E)
          · simp only [fQ]
            generalize l.length = N at *
            generalize hL:B.length = L at *
            (refine ⟨0,?_⟩;simp (maxSteps:=2000000) -implicitDefEqProofs [-getElem?_pos,go_sem,eqV,ah,hL,iT,hlt])
          · exact Run.cond (d:=true) (by simp [fQ,aC,au]) ⟨0,rfl⟩
        · exact piece q3 _ rfl
  · rintro fr E ⟨o,g,ob,l,s',g1,g2,g3,g4,g5⟩
    rw [g5]
    refine aj.of (o:=⟨.ret,[(8,.sl o 0 l.length g),(9,.int .u8 (s':Nat)),(10,.int .i64 0)],E⟩) ?_ ⟨rfl,o,g,ob,rfl,rfl,rfl,g3,g4⟩
    refine ⟨0,?_⟩
    generalize l.length = N at *
    simp (maxSteps:=2000000) -implicitDefEqProofs [-getElem?_pos,go_sem,eqV,ah,g1,g2,ak]
theorem O7 {m s:Nat} {mo th:Int} (hc:c = 0→B = []) (hb:B.length≤1000) (hs:s < 256):∃ code,Try.f11.body = some code∧aj (jV (sqX (sqR B s mo th))) X (evT X) 11 m code [(0,.ro c (.pb B) 1),(1,.int .u8 (s:Nat)),(2,.int .i64 mo),(3,.int .i64 th)] []:=by
  unfold sqR
  by_cases h:uJ mo th
  · rw [if_pos h]
    exact UE h
  · rw [if_neg h]
    unfold uJ at h
    obtain ⟨m1,rfl⟩:∃ k:Nat,mo = (k:Nat):=⟨mo.toNat,by omega⟩
    obtain ⟨t1,rfl⟩:∃ k:Nat,th = (k:Nat):=⟨th.toNat,by omega⟩
    rw [Int.toNat_natCast,Int.toNat_natCast]
    exact Rt hc hb hs (by omega) (by omega) (by omega)
theorem Xz {H:AM.Heap} {a:AV} {s:Nat} {mo th:Int} (h:Byt H a B) (hb:B.length≤1000) (hs:s < 256):∃ ob,Rw (.pb (sqR B s mo th).1) 0 ob∧evT X 11 [a,.int .u8 (s:Nat),.int .i64 mo,.int .i64 th] H = some (.tup [.sl H.length 0 (sqR B s mo th).1.length 0,.int .u8 ((sqR B s mo th).2.1:Nat),.int .i64 (sqR B s mo th).2.2],H ++ [some ob]):=by
  have h3:=dL (C:=X) (f:=11) (i:=3) (a:=.int .i64 th) (H:=H) rfl rfl (bU 4)
  have h2:=dL (C:=X) (f:=11) (i:=2) (a:=.int .i64 mo) (H:=H) rfl rfl h3
  have h1:=dL (C:=X) (f:=11) (i:=1) (a:=.int .u8 (s:Nat)) (H:=H) rfl rfl h2
  obtain ⟨c,p,xl,hp,hc,hx⟩:=oZ (C:=X) (f:=11) (i:=0) rfl h h1
  obtain ⟨code,hcode,out,⟨ho,o,g,ob,q1,q2,q3,q4,q5⟩,hrun⟩:=O7 (m:=0) (c:=c) (mo:=mo) (th:=th) hc hb hs
  obtain ⟨ob',r1,r2⟩:=Ev1.wZ (C:=X) (H:=H) (bn X) (n:=(sqR B s mo th).1.length) (l:=(sqR B s mo th).1) (rest:=[.int .u8 ((sqR B s mo th).2.1:Nat),.int .i64 (sqR B s mo th).2.2]) Try.func11 hcode hx (by simp [aJ,ids,hp.ids]) (by simp [bW]) rfl rfl rfl (by
    rw [YT,coD hp]
    refine ⟨out,⟨ho,o,g,ob,?_,q4,q5⟩,hrun⟩
    show aQ X out.fr out.H [.tmp 8,.tmp 9,.tmp 10] = _
    simp [aQ,q1,q2,q3])
  exact ⟨ob',r1,dA (by simpa [aO,fU] using r2)⟩
end
end Go.Proofs.Ytbodincpjijdiaa
