/- EE to DR: texts of this claim, one behind the other; what each shows stands at its head. -/
import Derived.Test.YtcllinmgllmpmaaMg3
set_option linter.unusedSimpArgs false
set_option linter.unusedVariables false
set_option maxRecDepth 100000
set_option maxHeartbeats 8000000
namespace Go.Proofs.Ytcllinmgllmpmaa
open Go.AM
theorem NR {x:Px} (h:ny x = true) (h0:¬ x.len = 0):x.dist≤32768:=by
 unfold ny at h
 rw [if_neg h0] at h
 simp at h
 omega
theorem PV {s:Ws} {x:Px} (h:jM s) (hm:ny x = true):jM (pxW s x)∧(pxW s x).k≤s.k + 40:=by
 unfold pxW
 by_cases h0:x.len = 0
 ·rw [if_pos h0]
  obtain ⟨h1,h2⟩:=kD (cs:=lcL) (ls:=flL) (y:=x.byte.toNat) h
  have:=CJ x.byte.toNat (by have:=x.byte.toNat_lt;omega)
  exact ⟨h1,by omega⟩
 ·rw [if_neg h0]
  obtain ⟨n,d,hn,hd,n3,n258,d1⟩:=JK hm h0
  have hd2:=NR hm h0
  rw [hn,hd] at *
  simp only [Int.toNat_natCast] at *
  obtain ⟨a1,a2,a3,a4,a5⟩:=wY n (by omega) n3
  obtain ⟨b1,b2,b3,b4⟩:=wZ d1 (by omega)
  obtain ⟨h1,h2⟩:=kD (cs:=lcL) (ls:=flL) (y:=(lenOf n).1) h
  obtain ⟨h3,h4⟩:=dR (x:=(n:Int) - ((lenOf n).2.1:Nat)) h1 (lenOf n).2.2
  obtain ⟨h5,h6⟩:=kD (cs:=dcL) (ls:=flD) (y:=(eH d).1) h3
  obtain ⟨h7,h8⟩:=dR (x:=(d:Int) - ((eH d).2.1:Nat)) h5 (eH d).2.2
  have:=CJ (lenOf n).1 (by omega)
  have:=PG (eH d).1 (by omega)
  exact ⟨h7,by omega⟩
section
variable {E:AM.Heap} {o6 o7 o8 o10 o12:Nat} {oa:Option Nat} {s:Ws}
theorem YE {m i c:Nat} {x:Px} {l:List Px} (h:FxV E o6 o7 o8 o10 o12 oa s) (hl:s.k≤6000000) (hx:l[i]? = some x) (hll:l.length≤100000) (hm:ny x = true):∃ E' oa',FxV E' o6 o7 o8 o10 o12 oa' (pxW s x)∧∃ code,((Try.f26.body).bind (aI [1,1,1,1,1,1,1,1,0,1,0,0,1,1])) = some code∧Run X (evT X) 26 m code (ou o6 o7 o8 o10 o12 c l i ++ [(49,.bool true)]) E ⟨.normal,ou o6 o7 o8 o10 o12 c l (i + 1),E'⟩:=by
 have hx':(l.map pxR)[i]? = some (pxR x):=by rw [List.getElem?_map,hx];rfl
 have hi:=eY hx
 have hiI:(i:Int) < (l.length:Int):=by omega
 have hlm:(l.map pxR).length = l.length:=by simp
 have Uj:∃ code,((Try.f26.body).bind (aI [1,1,1,1,1,1,1,1,0,1,0,0,1,1,0,0,0])) = some code∧Run X (evT X) 26 m code (ou o6 o7 o8 o10 o12 c l i ++ [(49,.bool true)]) E ⟨.normal,xZ o6 o7 o8 o10 o12 E.length c l i,E ++ [some (pxO x)]⟩:=by
  refine ⟨_,rfl,?_⟩
  simp only [ou,xZ,pxO,pxR] at hx' ⊢
  generalize l.map pxR = R at *
  generalize l.length = N at *
  (refine ⟨0,?_⟩;simp (maxSteps:=2000000) -implicitDefEqProofs [-getElem?_pos,go_sem,eqV,ah,hx',hi,hiI,hlm,aal,mQ,retag,yO,uM,splice,jm,scalars,scalar])
 have hF0:=h.cat [some (pxO x)]
 have hq0:(E ++ [some (pxO x)])[E.length]? = some (some (pxO x)):=by simp
 have hlt:=h.wr.lt
 generalize E ++ [some (pxO x)] = E0 at *
 have hqn:E.length ≠ o12∧∀ a,oa = some a→E.length ≠ a:=⟨by omega,fun a ha=>by have:=hlt.2 a ha;omega⟩
 generalize E.length = q at *
 have YF:∃ code,((Try.f26.body).bind (aI [1,1,1,1,1,1,1,1,0,1,0,0,1,1,0,0,1,0,0])) = some code∧Run X (evT X) 26 m code (xZ o6 o7 o8 o10 o12 q c l i) E0 ⟨.normal,xZ o6 o7 o8 o10 o12 q c l i ++ [(54,.bool (decide (x.len = 0)))],E0⟩:=by
  refine ⟨_,rfl,?_⟩
  simp only [xZ,pxO,pxR] at hq0 ⊢
  generalize l.map pxR = R at *
  generalize l.length = N at *
  by_cases h0:x.len = 0
  ·rw [decide_eq_true h0]
   rw [h0] at hq0
   (refine ⟨0,?_⟩;simp (maxSteps:=2000000) -implicitDefEqProofs [-getElem?_pos,go_sem,eqV,ah,hq0])
  ·have h0b:(x.len == 0) = false:=by simpa using h0
   rw [decide_eq_false h0]
   (refine ⟨0,?_⟩;simp (maxSteps:=2000000) -implicitDefEqProofs [-getElem?_pos,go_sem,eqV,ah,hq0,h0,h0b])
 have w1:IntKind.i64.wrap ((i:Int) + 1) = ((i + 1:Nat):Int):=by rw [wrap_i64 (by omega) (by omega)];omega
 have adr:∀ E',∃ code,((Try.f26.body).bind (aI [1,1,1,1,1,1,1,1,0,1,0,0,1,1,1])) = some code∧Run X (evT X) 26 m code (ou o6 o7 o8 o10 o12 c l i) E' ⟨.normal,ou o6 o7 o8 o10 o12 c l (i + 1),E'⟩:=by
  intro E'
  refine ⟨_,rfl,?_⟩
  simp only [ou]
  generalize l.map pxR = R at *
  generalize l.length = N at *
  generalize i + 1 = i1 at *
  (refine ⟨0,?_⟩;simp (maxSteps:=2000000) -implicitDefEqProofs [-getElem?_pos,go_sem,eqV,ah,w1])
 unfold pxW
 by_cases h0:x.len = 0
 ·rw [if_pos h0]
  rw [decide_eq_true h0] at YF
  obtain ⟨E1,oa1,g1,g2,g3⟩:=aav (m:=m) (i:=i) (c:=c) (l:=l) (tl:=[(54,.bool true)]) hF0 (by omega) hq0
  refine ⟨E1,oa1,g1,_,rfl,?_⟩
  apply Run.seq (fr':=ou o6 o7 o8 o10 o12 c l i) (H':=E1)
  ·refine Run.iP ?_
   apply Run.seq (piece Uj _ rfl)
   refine Run.bH ?_ (by simp)
   apply Run.seq (piece YF _ rfl)
   refine Run.cond (d:=true) (by simp [xZ,aF,au]) ?_
   exact Run.seq (piece g3 _ rfl) ⟨0,rfl⟩
  ·exact piece (adr E1) _ rfl
 ·rw [if_neg h0]
  rw [decide_eq_false h0] at YF
  obtain ⟨n,d,hn,hd,n3,n258,d1⟩:=JK hm h0
  have hd2:=NR hm h0
  have en:x.len.toNat = n:=by omega
  have ed:x.dist.toNat = d:=by omega
  rw [en,ed]
  obtain ⟨a1,a2,a3,a4,a5⟩:=wY n (by omega) n3
  obtain ⟨b1,b2,b3,b4⟩:=wZ d1 (by omega)
  have f1:=CJ (lenOf n).1 (by omega)
  have f2:=PG (eH d).1 (by omega)
  have akR:=aaw (m:=m) (E:=E0) (o6:=o6) (o7:=o7) (o8:=o8) (o10:=o10) (o12:=o12) (i:=i) (c:=c) (l:=l) (tl:=[(54,.bool false)]) hn n258 hq0
  obtain ⟨E1,oa1,g1,g2,g3⟩:=aay (m:=m) (i:=i) (q:=q) (u:=(lenOf n).1) (v:=(lenOf n).2.1) (w:=(lenOf n).2.2) (c:=c) (l:=l) hF0 (by omega) (by omega)
  have k1:=(kD (cs:=lcL) (ls:=flL) (y:=(lenOf n).1) h.ok).2
  have kq:∀ {E2:AM.Heap} {oa2:Option Nat},Kpw E0 E2 o12 oa oa2→E2[q]? = some (some (pxO x)):=fun hk=>by rw [hk.rest q (eY hq0) hqn.1 hqn.2];exact hq0
  obtain ⟨E2,oa2,g4,g5,g6⟩:=aaA (m:=m) (i:=i) (q:=q) (v:=(lenOf n).2.1) (w:=(lenOf n).2.2) (c:=c) (l:=l) g1 (by omega) hn (by omega) a3 (by omega) (kq g2)
  have k2:=(dR (x:=x.len - ((lenOf n).2.1:Nat)) g1.ok (lenOf n).2.2).2
  have akS:=aax (m:=m) (o6:=o6) (o7:=o7) (o8:=o8) (o10:=o10) (o12:=o12) (i:=i) (c:=c) (l:=l) hd d1 (by omega) (kq (g2.trans g5))
  obtain ⟨E3,oa3,g7,g8,g9⟩:=aaz (m:=m) (i:=i) (q:=q) (u:=(eH d).1) (v:=(eH d).2.1) (w:=(eH d).2.2) (c:=c) (l:=l) g4 (by omega) (by omega)
  have k3:=(kD (cs:=dcL) (ls:=flD) (y:=(eH d).1) g4.ok).2
  obtain ⟨E4,oa4,g10,g11,g12⟩:=aaB (m:=m) (i:=i) (q:=q) (v:=(eH d).2.1) (w:=(eH d).2.2) (c:=c) (l:=l) g7 (by omega) hd (by omega) b2 (by omega) (kq ((g2.trans g5).trans g8))
  refine ⟨E4,oa4,g10,_,rfl,?_⟩
  apply Run.seq (fr':=ou o6 o7 o8 o10 o12 c l i) (H':=E4)
  ·refine Run.block ?_ (by simp)
   apply Run.seq (piece Uj _ rfl)
   apply Run.seq (fr':=xZ o6 o7 o8 o10 o12 q c l i ++ [(54,.bool false)]) (H':=E0)
   ·apply Run.seq (piece YF _ rfl)
    exact Run.cond (d:=false) (by simp [xZ,aF,au]) ⟨0,rfl⟩
   apply Run.seq (piece akR _ rfl)
   apply Run.seq (piece g3 _ rfl)
   apply Run.seq (piece g6 _ rfl)
   apply Run.seq (piece akS _ rfl)
   apply Run.seq (piece g9 _ rfl)
   exact piece g12 _ rfl
  ·exact piece (adr E4) _ rfl
end
end Go.Proofs.Ytcllinmgllmpmaa
namespace Go.Proofs.Ytcllinmgllmpmaa
open Go.AM
theorem J5:∀ {l:List Px} {o:List UInt8},(jX l o).2 = 0→∀ x ∈ l,ny x = true
 | [],_,_,x,hx=>by cases hx
 | y :: l,o,h,x,hx=>by
  unfold jX at h
  split at h
  ·cases h
  ·rename_i hm
   have hm:ny y = true:=by simpa using hm
   rcases List.mem_cons.1 hx with rfl | hx
   ·exact hm
   ·split at h
    ·exact J5 h x hx
    ·split at h
     ·cases h
     ·exact J5 h x hx
theorem F7:∀ (l:List Px) (s:Ws),jM s→(∀ x ∈ l,ny x = true)→jM (l.foldl pxW s)∧(l.foldl pxW s).k≤s.k + 40 * l.length
 | [],s,h,_=>⟨h,by simp⟩
 | x :: l,s,h,hm=>by
  obtain ⟨h1,h2⟩:=PV h (hm x (List.mem_cons_self ..))
  obtain ⟨h3,h4⟩:=F7 l (pxW s x) h1 fun y hy=>hm y (List.mem_cons_of_mem _ hy)
  exact ⟨h3,by simp only [List.foldl_cons,List.length_cons];omega⟩
section
variable {E:AM.Heap} {o6 o7 o8 o10 o12:Nat} {oa:Option Nat} {s:Ws}
theorem Yv {m c:Nat} {l:List Px} (h:FxV E o6 o7 o8 o10 o12 oa s) (hs:s.k≤100) (hll:l.length≤2000) (hm:∀ x ∈ l,ny x = true):∃ code,((Try.f26.body).bind (aI [1,1,1,1,1,1,1,1,0,1])) = some code∧aj (Goes fun fr E'=>∃ oa',fr = ou o6 o7 o8 o10 o12 c l l.length ++ [(49,.bool false)]∧FxV E' o6 o7 o8 o10 o12 oa' (l.foldl pxW s)) X (evT X) 26 m code (ou o6 o7 o8 o10 o12 c l 0) E:=by
 refine ⟨_,rfl,?_⟩
 apply aj.block
 refine aj.kF (I:=fun k fr E'=>∃ i oa' s',i≤l.length∧k = l.length - i∧fr = ou o6 o7 o8 o10 o12 c l i∧FxV E' o6 o7 o8 o10 o12 oa' s'∧s'.k≤100 + 40 * i∧(l.drop i).foldl pxW s' = l.foldl pxW s) ?_ (k:=l.length) ⟨0,oa,s,by omega,rfl,rfl,h,by omega,rfl⟩
 rintro k fr E' ⟨i,oa',s',hi,rfl,rfl,hF,hk,hf⟩
 by_cases hin:i = l.length
 ·rw [List.drop_of_length_le (by omega),List.foldl_nil] at hf
  refine aj.of (o:=⟨.exit 0,ou o6 o7 o8 o10 o12 c l i ++ [(49,.bool false)],E'⟩) ?_ (.inr ⟨by simp,rfl,oa',by rw [hin],by rw [← hf];exact hF⟩)
  subst hin
  refine ⟨0,?_⟩
  simp only [ou]
  generalize l.map pxR = R at *
  generalize l.length = N at *
  simp (maxSteps:=2000000) -implicitDefEqProofs [-getElem?_pos,go_sem,eqV,ah]
 ·have hlt:i < l.length:=by omega
  have jU:(i:Int) < (l.length:Int):=by omega
  obtain ⟨x,hx⟩:∃ x,l[i]? = some x:=⟨_,List.getElem?_eq_getElem hlt⟩
  have hmx:=hm x (List.mem_of_getElem? hx)
  have hdrop:l.drop i = x :: l.drop (i + 1):=by
   rw [List.drop_eq_getElem_cons hlt]
   rw [List.getElem?_eq_getElem hlt] at hx
   rw [Option.some.inj hx]
  rw [hdrop,List.foldl_cons] at hf
  obtain ⟨E2,oa2,g1,g2⟩:=YE (m:=m) (c:=c) hF (by omega) hx (by omega) hmx
  have hk2:=(PV hF.ok hmx).2
  refine aj.of (o:=⟨.normal,ou o6 o7 o8 o10 o12 c l (i + 1),E2⟩) ?_ (.inl ⟨rfl,l.length - (i + 1),by omega,i + 1,oa2,_,by omega,rfl,rfl,g1,by omega,hf⟩)
  apply Run.seq (fr':=ou o6 o7 o8 o10 o12 c l i ++ [(49,.bool true)]) (H':=E')
  ·simp only [ou]
   generalize l.map pxR = R at *
   generalize l.length = N at *
   (refine ⟨0,?_⟩;simp (maxSteps:=2000000) -implicitDefEqProofs [-getElem?_pos,go_sem,eqV,ah,jU,hlt])
  apply Run.seq (fr':=ou o6 o7 o8 o10 o12 c l i ++ [(49,.bool true)]) (H':=E')
  ·exact Run.cond (d:=true) (by simp [ou,aF,au]) ⟨0,rfl⟩
  exact piece g2 _ rfl
theorem aaM {m c i:Nat} {l:List Px} {tl:AM.Frame} (h:FxV E o6 o7 o8 o10 o12 oa s) (hl:s.k≤7000000):∃ E' oa',FxV E' o6 o7 o8 o10 o12 oa' (jL s lcL flL 256)∧∃ code,((Try.f26.body).bind (aI [1,1,1,1,1,1,1,1,1,0])) = some code∧Run X (evT X) 26 m code (ou o6 o7 o8 o10 o12 c l i ++ tl) E ⟨.normal,[(12,.ptr o12 0 0 0)],E'⟩:=by
 obtain ⟨n0,n9⟩:=CJ 256 (by omega)
 have hc:=su (l:=lcL) (y:=256) (by unfold lcL;rw [vg,rZ];omega)
 have hf:=su (l:=flL) (y:=256) (by rw [rZ];omega)
 obtain ⟨E',oa',g1,g2,g3⟩:=AU (x:=lcL.getD 256 0) (I:=flL.getD 256 0) (n:=(flL.getD 256 0).toNat) (by omega) h.wr h.ok (by omega) (by omega)
 have hs:=kD (cs:=lcL) (ls:=flL) (y:=256) h.ok
 refine ⟨E',oa',h.step g2 g3 hs.1,_,rfl,?_⟩
 have q6:=h.r6;have q8:=h.r8
 simp only [flO,oh] at q6 q8
 simp only [ou]
 generalize lcL.getD 256 0 = v1 at *
 generalize flL.getD 256 0 = v2 at *
 generalize l.map pxR = R at *
 generalize l.length = N at *
 generalize lcL = LC at *
 generalize flL = LL at *
 (refine ⟨0,?_⟩;simp (maxSteps:=2000000) -implicitDefEqProofs [-getElem?_pos,go_sem,eqV,ah,retag,q6,q8,hc,hf,g1])
theorem aaN {m:Nat} (h:FxV E o6 o7 o8 o10 o12 oa s) (hne:s.o ≠ []):∃ a g ob,E[a]? = some (some ob)∧Rw (.pb s.o) g ob∧∃ code,((Try.f26.body).bind (aI [1,1,1,1,1,1,1,1,1,1,0])) = some code∧Run X (evT X) 26 m code [(12,.ptr o12 0 0 0)] E ⟨.normal,[(2,.sl a 0 s.o.length g),(3,.int .i64 0)],E⟩:=by
 obtain ⟨⟨vo,τ,a1,h0,ho⟩,hn⟩:=id h.wr
 cases hq:oa with
 | none=>rw [hq] at ho;exact absurd ho.1 hne
 | some a =>
  rw [hq] at ho
  obtain ⟨g,τ2,ob,hτ2,rfl,h3,h4⟩:=ho
  have ht:τ2 = 0:=hτ2.elim id id
  refine ⟨a,g,ob,h3,⟨h4.p,h4.g,h4.row,h4.ids,by rw [h4.tg,ht]⟩,_,rfl,?_⟩
  simp only [jv] at h0
  generalize s.o.length = N at *
  (refine ⟨0,?_⟩;simp (maxSteps:=2000000) -implicitDefEqProofs [-getElem?_pos,go_sem,eqV,ah,h0,ak])
end
end Go.Proofs.Ytcllinmgllmpmaa
namespace Go.Proofs.Ytcllinmgllmpmaa
open Go.AM
def yB:List Int→Int→Int × Int
 | [],s=>(s,0)
 | x :: r,s=>if 0≤x∧x≤15 then yB r (if 0 < x then IntKind.i64.wrap (s + IntKind.i64.wrap (2 ^ (min (15 - x).toNat 64))) else s) else (s,2)
def bC (l:List Int):Bool × Int :=
 if 320 < (l.length:Int) then (false,3) else
 if (yB l 0).2 = 0 then (if 32768 < (yB l 0).1 then (false,7) else ((yB l 0).1 == 32768,0)) else (false,2)
def Rn (n nx la:Int):Int:=if 0 < la then IntKind.i64.wrap (IntKind.i64.wrap (nx + 1) * 2 ^ (min (IntKind.u64.wrap (IntKind.i64.wrap (n - la))).toNat 64)) else nx
def rIn (n:Int):List Int→Nat→Int→Int→List Int→Int × Int × List Int
 | [],_,nx,la,o=>(nx,la,o)
 | x :: r,i,nx,la,o=>if x = n then rIn n r (i + 1) (Rn n nx la) n (o.set i (Rn n nx la)) else rIn n r (i + 1) nx la o
def PZ (l:List Int):Nat→Nat→Int→Int→List Int→Int × Int × List Int
 | 0,_,nx,la,o=>(nx,la,o)
 | k + 1,n,nx,la,o=>PZ l k (n + 1) (rIn n l 0 nx la o).1 (rIn n l 0 nx la o).2.1 (rIn n l 0 nx la o).2.2
def Un:List Int→Nat→List Int→List Int
 | [],_,o=>o
 | x :: r,i,o=>Un r (i + 1) (if x = 0 then o.set i (-1) else o)
def iq (l:List Int):List Int:=Un l 0 (PZ l 15 1 0 0 (List.replicate l.length 0)).2.2
theorem Ea (n:Int):∀ (l:List Int) (i:Nat) (nx la:Int) (o:List Int),(rIn n l i nx la o).2.2.length = o.length
 | [],_,_,_,_=>rfl
 | x :: r,i,nx,la,o=>by
  simp only [rIn]
  split
  ·rw [Ea n r];simp
  ·rw [Ea n r]
theorem Gh (l:List Int):∀ (k n:Nat) (nx la:Int) (o:List Int),(PZ l k n nx la o).2.2.length = o.length
 | 0,_,_,_,_=>rfl
 | k + 1,n,nx,la,o=>by rw [PZ,Gh l k,Ea]
theorem NS:∀ (l:List Int) (i:Nat) (o:List Int),(Un l i o).length = o.length
 | [],_,_=>rfl
 | x :: r,i,o=>by
  rw [Un,NS r]
  split <;> simp
end Go.Proofs.Ytcllinmgllmpmaa
namespace Go.Proofs.Ytcllinmgllmpmaa
open Go.AM
def fine (l:List Int):Bool:=l.all fun x=>decide (0≤x∧x≤15)
theorem Gi:∀ (l n:List Int),(iQ n l).2 = if fine l then 0 else 2
 | [],n=>by simp [iQ,fine]
 | x :: r,n=>by
  unfold iQ
  by_cases h:0≤x∧x≤15
  ·rw [if_pos h,Gi r];simp [fine,h]
  ·rw [if_neg h];simp only [fine,List.all_cons,decide_eq_false h,Bool.false_and];rfl
theorem CS:∀ (l:List Int) (s:Int),(yB l s).2 = if fine l then 0 else 2
 | [],n=>by simp [yB,fine]
 | x :: r,n=>by
  unfold yB
  by_cases h:0≤x∧x≤15
  ·rw [if_pos h,CS r];simp [fine,h]
  ·rw [if_neg h];simp only [fine,List.all_cons,decide_eq_false h,Bool.false_and];rfl
theorem xY {x:Int} {r:List Int}:fine (x :: r) = true ↔ (0≤x∧x≤15)∧fine r = true:=by simp [fine]
theorem pG (n:List Int) (i j:Nat) (v:Int) (h:i < n.length):(n.set i v).getD j 0 = if i = j then v else n.getD j 0:=by
 simp only [List.getD_eq_getElem?_getD,List.getElem?_set]
 by_cases e:i = j
 ·subst e;simp [h]
 ·simp [e]
theorem IK:∀ (l n:List Int) (B:Int),fine l = true→n.length = 16→(∀ j:Nat,0≤n.getD j 0∧n.getD j 0≤B)→B + l.length < 9223372036854775808 →
  ∀ j:Nat,j < 16→(iQ n l).1.getD j 0 = n.getD j 0 + (l.count (j:Int):Nat)
 | [],n,B,_,_,_,_,j,_=>by simp [iQ]
 | x :: r,n,B,hf,hn,hb,hB,j,hj=>by
  obtain ⟨h,hr⟩:=xY.1 hf
  unfold iQ
  rw [if_pos h]
  have hx:x.toNat < n.length:=by omega
  have hw:IntKind.i64.wrap (n.getD x.toNat 0 + 1) = n.getD x.toNat 0 + 1:=by
   have:=hb x.toNat
   simp only [List.length_cons] at hB
   exact wrap_i64 (by omega) (by omega)
  rw [hw,IK r _ (B + 1) hr (by simpa using hn) (fun k=>by
   rw [pG _ _ _ _ hx]
   have:=hb k
   have:=hb x.toNat
   split <;> omega) (by simp only [List.length_cons] at hB;omega) j hj,pG _ _ _ _ hx,List.count_cons]
  by_cases e:x.toNat = j
  ·have:x = (j:Int):=by omega
   subst e;simp [← this];omega
  ·have:¬ x = (j:Int):=by omega
   simp [e,this]
def ct (l:List Int) (j:Nat):Int:=(l.count (j:Int):Nat)
theorem lG (l:List Int) (j:Nat):0≤ct l j:=by simp [ct]
theorem Dj (l:List Int) (j:Nat):ct l j≤l.length:=by unfold ct;have:=List.count_le_length (a:=(j:Int)) (l:=l);omega
theorem WJ (j:Nat):z16.getD j 0 = 0:=by
 unfold z16
 match j with
 | 0 | 1 | 2 | 3 | 4 | 5 | 6 | 7 | 8 | 9 | 10 | 11 | 12 | 13 | 14 | 15=>rfl
 | j + 16=>rfl
theorem uJ {l:List Int} (h:l.length≤320) (hf:fine l = true) (j:Nat) (hj:j < 16):(bf l).1.getD j 0 = ct l j:=by
 unfold bf
 rw [if_neg (by omega),IK l z16 0 hf rfl (fun j=>by rw [WJ];omega) (by omega) j hj,WJ]
 simp [ct]
theorem NU (l:List Int):(bf l).2 = if 320 < (l.length:Int) then 3 else if fine l then 0 else 2:=by
 unfold bf;split
 ·rfl
 ·exact Gi l z16
def sumP (c:Nat→Int):Nat→Nat→Int
 | 0,_=>0
 | k + 1,i=>c i * 2 ^ (15 - i) + sumP c k (i + 1)
theorem Ro (n:List Int) (c:Nat→Int) (hc:∀ j,j < 16→n.getD j 0 = c j) (h0:∀ j,0≤c j∧c j≤320):∀ (k i:Nat) (s:Int),k + i = 16→0≤s→s≤10485760 * i →
  GK n k i s = s + sumP c k i
 | 0,_,s,_,_,_=>by simp [GK,sumP]
 | k + 1,i,s,h,hs,hs2=>by
  have hp:(2:Int) ^ (15 - i)≤2 ^ 15:=by
   have:=Nat.pow_le_pow_right (n:=2) (by omega) (show 15 - i≤15 by omega)
   exact_mod_cast this
  have hp0:(0:Int) < 2 ^ (15 - i):=Int.pow_pos (by omega)
  have hb:=h0 i
  have hm:c i * 2 ^ (15 - i)≤320 * 2 ^ 15:=Int.mul_le_mul hb.2 hp (by omega) (by omega)
  have hm0:0≤c i * 2 ^ (15 - i):=Int.mul_nonneg hb.1 (by omega)
  unfold GK sumP
  rw [hc i (by omega),Nat.min_eq_left (by omega),wrap_i64 (n:=c i * 2 ^ (15 - i)) (by omega) (by omega),wrap_i64 (by omega) (by omega)]
  rw [Ro n c hc h0 k (i + 1) _ (by omega) (by omega) (by omega)]
  omega
def NV:List Int→Int
 | []=>0
 | x :: r=>(if 0 < x then 2 ^ (15 - x.toNat) else 0) + NV r
theorem Gj:∀ (l:List Int) (s:Int),fine l = true→0≤s→s + 32768 * l.length < 9223372036854775808→(yB l s).1 = s + NV l
 | [],s,_,_,_=>by simp [yB,NV]
 | x :: r,s,hf,hs,hb=>by
  obtain ⟨h,hr⟩:=xY.1 hf
  unfold yB
  rw [if_pos h]
  simp only [List.length_cons] at hb
  have hp:(2:Int) ^ (15 - x.toNat)≤2 ^ 15:=by
   have:=Nat.pow_le_pow_right (n:=2) (by omega) (show 15 - x.toNat≤15 by omega)
   exact_mod_cast this
  have hp0:(0:Int) < 2 ^ (15 - x.toNat):=Int.pow_pos (by omega)
  have e:min (15 - x).toNat 64 = 15 - x.toNat:=by omega
  rw [e,wrap_i64 (n:=2 ^ (15 - x.toNat)) (by omega) (by omega),wrap_i64 (by omega) (by omega)]
  by_cases h0:0 < x
  ·rw [if_pos h0,Gj r _ hr (by omega) (by omega)];simp only [NV,if_pos h0];omega
  ·rw [if_neg h0,Gj r _ hr (by omega) (by omega)];simp only [NV,if_neg h0];omega
theorem YG (x:Int) (r:List Int) (j:Nat):ct (x :: r) j = ct r j + if x = (j:Int) then 1 else 0:=by
 unfold ct
 rw [List.count_cons]
 by_cases h:x = (j:Int) <;> simp [h]
theorem Rq:∀ l:List Int,fine l = true→sumP (ct l) 15 1 = NV l
 | [],_=>by simp [sumP,NV,ct]
 | x :: r,hf=>by
  obtain ⟨h,hr⟩:=xY.1 hf
  have ih:=Rq r hr
  have hx:x = 0∨x = 1∨x = 2∨x = 3∨x = 4∨x = 5∨x = 6∨x = 7∨x = 8∨x = 9∨x = 10∨x = 11∨x = 12∨x = 13∨x = 14∨x = 15:=by omega
  unfold NV
  rw [← ih]
  simp only [sumP,YG]
  rcases hx with rfl | rfl | rfl | rfl | rfl | rfl | rfl | rfl | rfl | rfl | rfl | rfl | rfl | rfl | rfl | rfl <;> simp <;> omega
theorem Ew (l:List Int):jK l = bC l:=by
 unfold jK bC
 rw [NU,CS]
 by_cases h:320 < (l.length:Int)
 ·simp [h]
 ·by_cases hf:fine l = true
  ·simp only [h,hf,if_false,if_true]
   rw [Ro (bf l).1 (ct l) (fun j hj=>uJ (by omega) hf j hj) (fun j=>⟨lG l j,by have:=Dj l j;omega⟩) 15 1 0 rfl (by omega) (by omega),Rq l hf,Gj l 0 hf (by omega) (by omega)]
  ·simp [h,hf]
end Go.Proofs.Ytcllinmgllmpmaa
namespace Go.Proofs.Ytcllinmgllmpmaa
open Go.AM
def fst (c:Nat→Int):Nat→Int
 | 0=>0
 | 1=>0
 | i + 2=>2 * (fst c (i + 1) + c (i + 1))
theorem qA (c:Nat→Int) (h0:∀ j,0≤c j∧c j≤320):∀ i:Nat,0≤fst c i∧fst c i + 640≤640 * 2 ^ i
 | 0=>by simp [fst]
 | 1=>by simp [fst]
 | i + 2=>by
  have:=qA c h0 (i + 1)
  have:=h0 (i + 1)
  have e:(2:Int) ^ (i + 2) = 2 * 2 ^ (i + 1):=by rw [Int.pow_succ];omega
  rw [e]
  simp only [fst]
  omega
theorem IL (n:List Int) (c:Nat→Int) (hc:∀ j,0 < j→j < 16→n.getD j 0 = c j) (h0:∀ j,0≤c j∧c j≤320):∀ (k i:Nat) (f:List Int),k + i = 16→0 < i→f.length = 17 →
  (∀ j,j≤i→f.getD j 0 = fst c j)→∀ j,j≤16→(ru n k i f).getD j 0 = fst c j
 | 0,i,f,hk,hi,hl,hf,j,hj=>by
  unfold ru;exact hf j (by omega)
 | k + 1,i,f,hk,hi,hl,hf,j,hj=>by
  unfold ru
  refine IL n c hc h0 k (i + 1) _ (by omega) (by omega) (by simpa using hl) (fun a ha=>?_) j hj
  rw [pG _ _ _ _ (by omega)]
  by_cases e:i + 1 = a
  ·subst e
   rw [if_pos rfl,hf i (by omega),hc i hi (by omega)]
   have hb:=qA c h0 i
   have hb1:=h0 i
   have hp:(2:Int) ^ i≤2 ^ 15:=by
    have:=Nat.pow_le_pow_right (n:=2) (by omega) (show i≤15 by omega)
    exact_mod_cast this
   rw [wrap_i64 (n:=fst c i + c i) (by omega) (by omega),wrap_i64 (by omega) (by omega)]
   obtain ⟨m,rfl⟩:∃ m,i = m + 1:=⟨i - 1,by omega⟩
   simp only [fst]
   omega
  ·rw [if_neg e];exact hf a (by omega)
theorem aaS (j:Nat):z17.getD j 0 = 0:=by
 unfold z17
 match j with
 | 0 | 1 | 2 | 3 | 4 | 5 | 6 | 7 | 8 | 9 | 10 | 11 | 12 | 13 | 14 | 15 | 16=>rfl
 | j + 17=>rfl
theorem yK {l:List Int} (h:l.length≤320) (hf:fine l = true) (j:Nat) (hj:j≤16):(dW (bf l).1).getD j 0 = fst (ct l) j:=by
 unfold dW
 refine IL _ (ct l) (fun a ha hb=>?_) (fun j=>⟨lG l j,by have:=Dj l j;omega⟩) 15 1 z17 rfl (by omega) rfl (fun a ha=>?_) j hj
 ·rw [pG _ _ _ _ (by rw [jT];omega),if_neg (by omega),uJ h hf a hb]
 ·rw [aaS]
  match a with
  | 0 | 1=>rfl
def code (l:List Int) (p:Nat):Int:=if 0 < l.getD p 0 then fst (ct l) (l.getD p 0).toNat + ct (l.take p) (l.getD p 0).toNat else -1
theorem CU (l:List Int) (h:l.length≤320) (hf:fine l = true):∀ (todo pre next:List Int),l = pre ++ todo→next.length = 17 →
  (∀ j:Nat,0 < j→j < 16→next.getD j 0 = fst (ct l) j + ct pre j)→∀ j,j < todo.length→(pV next todo).getD j 0 = code l (pre.length + j)
 | [],pre,next,_,_,_,j,hj=>by simp at hj
 | x :: r,pre,next,e,hn,hx,j,hj=>by
  have hat:l.getD pre.length 0 = x:=by rw [e];simp
  have htk:l.take pre.length = pre:=by rw [e];simp
  have hxr:0≤x∧x≤15:=by
   have:=List.all_eq_true.1 hf x (by rw [e];simp)
   simpa using this
  unfold pV
  by_cases h0:0 < x
  ·rw [if_pos h0]
   have hb:=qA (ct l) (fun j=>⟨lG l j,by have:=Dj l j;omega⟩) x.toNat
   have hp:(2:Int) ^ x.toNat≤2 ^ 15:=by
    have:=Nat.pow_le_pow_right (n:=2) (by omega) (show x.toNat≤15 by omega)
    exact_mod_cast this
   have hpl:pre.length≤l.length:=by rw [e];simp
   have hcp:=Dj pre x.toNat
   have hcn:=lG pre x.toNat
   have hnx:=hx x.toNat (by omega) (by omega)
   match j with
   | 0=>simp only [code,Nat.add_zero,hat,htk,if_pos h0,List.getD_cons_zero,hnx]
   | j + 1 =>
    have:=CU l h hf r (pre ++ [x]) (next.set x.toNat (IntKind.i64.wrap (next.getD x.toNat 0 + 1))) (by simp [e]) (by simpa using hn) (fun a ha hb2=>by
     rw [pG _ _ _ _ (by omega),wrap_i64 (by omega) (by omega)]
     have ea:ct (pre ++ [x]) a = ct pre a + if x = (a:Int) then 1 else 0:=by
      unfold ct;rw [List.count_append,List.count_cons];by_cases q:x = (a:Int) <;> simp [q]
     rw [ea]
     by_cases q:x.toNat = a
     ·subst q
      rw [if_pos rfl,if_pos (by omega),hnx];omega
     ·rw [if_neg q,if_neg (by omega),hx a ha hb2];omega) j (by simpa using hj)
    simp only [List.getD_cons_succ]
    rw [this]
    simp only [List.length_append,List.length_cons,List.length_nil]
    congr 1;omega
  ·rw [if_neg h0]
   match j with
   | 0=>simp only [code,Nat.add_zero,hat,if_neg h0,List.getD_cons_zero]
   | j + 1 =>
    have:=CU l h hf r (pre ++ [x]) next (by simp [e]) hn (fun a ha hb2=>by
     have ea:ct (pre ++ [x]) a = ct pre a + if x = (a:Int) then 1 else 0:=by
      unfold ct;rw [List.count_append,List.count_cons];by_cases q:x = (a:Int) <;> simp [q]
     rw [ea,if_neg (by omega),hx a ha hb2];omega) j (by simpa using hj)
    simp only [List.getD_cons_succ]
    rw [this]
    simp only [List.length_append,List.length_cons,List.length_nil]
    congr 1;omega
theorem Ho {l:List Int} (h:l.length≤320) (hf:fine l = true) (j:Nat) (hj:j < l.length):(nR l).getD j 0 = code l j:=by
 unfold nR
 have hl:(dW (bf l).1).length = 17:=by unfold dW;rw [kY];rfl
 have:=CU l h hf l [] _ rfl hl (fun a ha hb=>by rw [yK h hf a (by omega)];simp [ct]) j hj
 simpa using this
def Inv (l:List Int) (n:Nat) (m nx la:Int):Prop :=
 0≤la∧la≤n∧0≤nx∧(la = 0→nx = 0)∧(if 0 < la then (nx + 1) * 2 ^ (n - la.toNat) else nx) = fst (ct l) n + m
theorem step_eq {l:List Int} (h:l.length≤320) {n:Nat} (hn:n≤15) {m nx la:Int} (hm:m≤320) (hi:Inv l n m nx la):Rn n nx la = fst (ct l) n + m:=by
 obtain ⟨h1,h2,h3,h4,h5⟩:=hi
 unfold Rn
 have hb:=qA (ct l) (fun j=>⟨lG l j,by have:=Dj l j;omega⟩) n
 have hp:(2:Int) ^ n≤2 ^ 15:=by
  have:=Nat.pow_le_pow_right (n:=2) (by omega) (show n≤15 by omega)
  exact_mod_cast this
 by_cases hl:0 < la
 ·rw [if_pos hl] at h5 ⊢
  have hp1:(1:Int)≤2 ^ (n - la.toNat):=Int.pow_pos (by omega)
  have hle:nx + 1≤(nx + 1) * 2 ^ (n - la.toNat):=by
   have:=Int.mul_le_mul_of_nonneg_left hp1 (show 0≤nx + 1 by omega)
   omega
  rw [wrap_i64 (n:=nx + 1) (by omega) (by omega),wrap_i64 (n:=(n:Int) - la) (by omega) (by omega),wrap_u64 (by omega) (by omega)]
  have e:min ((n:Int) - la).toNat 64 = n - la.toNat:=by omega
  rw [e,h5,wrap_i64 (by omega) (by omega)]
 ·rw [if_neg hl] at h5 ⊢;exact h5
theorem P5 (l:List Int) (h:l.length≤320) (n:Nat) (hn:n≤15) (hn0:0 < n):∀ (todo pre o:List Int) (nx la:Int),l = pre ++ todo→o.length = l.length→Inv l n (ct pre n) nx la →
  Inv l n (ct l n) (rIn n todo pre.length nx la o).1 (rIn n todo pre.length nx la o).2.1 ∧
   (∀ j,j < l.length→(rIn n todo pre.length nx la o).2.2.getD j 0 = if l.getD j 0 = n∧pre.length≤j then code l j else o.getD j 0)
 | [],pre,o,nx,la,e,ho,hi=>by
  simp only [List.append_nil] at e
  subst e
  refine ⟨hi,fun j hj=>?_⟩
  rw [if_neg (by omega)];rfl
 | x :: r,pre,o,nx,la,e,ho,hi=>by
  have hat:l.getD pre.length 0 = x:=by rw [e];simp
  have htk:l.take pre.length = pre:=by rw [e];simp
  have hpl:pre.length < l.length:=by rw [e];simp
  have hcp:=Dj pre n
  have hcn:=lG pre n
  have ea:ct (pre ++ [x]) n = ct pre n + if x = (n:Int) then 1 else 0:=by
   unfold ct;rw [List.count_append,List.count_cons];by_cases q:x = (n:Int) <;> simp [q]
  have el:pre.length + 1 = (pre ++ [x]).length:=by simp
  unfold rIn
  by_cases hx:x = (n:Int)
  ·rw [if_pos hx]
   have hs:=step_eq h hn (by omega) hi
   have hb:=qA (ct l) (fun j=>⟨lG l j,by have:=Dj l j;omega⟩) n
   rw [hs,el]
   obtain ⟨g1,g2⟩:=P5 l h n hn hn0 r (pre ++ [x]) (o.set pre.length (fst (ct l) n + ct pre n)) (fst (ct l) n + ct pre n) n (by simp [e]) (by simpa using ho) (by
    refine ⟨by omega,by omega,by omega,by omega,?_⟩
    rw [if_pos (by omega),ea,if_pos hx]
    simp;omega)
   refine ⟨g1,fun j hj=>?_⟩
   rw [g2 j hj,pG _ _ _ _ (by omega)]
   by_cases q:pre.length = j
   ·subst q
    rw [if_neg (by simp),if_pos rfl,if_pos ⟨by rw [hat,hx],Nat.le_refl _⟩]
    simp only [code,hat,htk]
    rw [if_pos (by omega),hx];rfl
   ·rw [if_neg q]
    by_cases q2:l.getD j 0 = n
    ·simp only [q2,List.length_append,List.length_cons,List.length_nil]
     by_cases q3:pre.length≤j
     ·rw [if_pos ⟨trivial,by omega⟩,if_pos ⟨trivial,q3⟩]
     ·rw [if_neg (by omega),if_neg (by omega)]
    ·rw [if_neg (fun z=>q2 z.1),if_neg (fun z=>q2 z.1)]
  ·rw [if_neg hx,el]
   obtain ⟨g1,g2⟩:=P5 l h n hn hn0 r (pre ++ [x]) o nx la (by simp [e]) ho (by rw [ea,if_neg hx];simpa using hi)
   refine ⟨g1,fun j hj=>?_⟩
   rw [g2 j hj]
   by_cases q2:l.getD j 0 = n
   ·have q:pre.length ≠ j:=by rintro rfl;exact hx (by rw [← hat,q2])
    simp only [q2,List.length_append,List.length_cons,List.length_nil]
    by_cases q3:pre.length≤j
    ·rw [if_pos ⟨trivial,by omega⟩,if_pos ⟨trivial,q3⟩]
    ·rw [if_neg (by omega),if_neg (by omega)]
   ·rw [if_neg (fun z=>q2 z.1),if_neg (fun z=>q2 z.1)]
theorem Rt (l:List Int) (h:l.length≤320):∀ (k n:Nat) (o:List Int) (nx la:Int),k + n = 16→0 < n→o.length = l.length→Inv l n 0 nx la →
  ∀ j,j < l.length→(PZ l k n nx la o).2.2.getD j 0 = if (n:Int)≤l.getD j 0∧l.getD j 0≤15 then code l j else o.getD j 0
 | 0,n,o,nx,la,hk,hn,ho,hi,j,hj=>by
  rw [if_neg (by omega)];rfl
 | k + 1,n,o,nx,la,hk,hn,ho,hi,j,hj=>by
  unfold PZ
  obtain ⟨g1,g2⟩:=P5 l h n (by omega) hn l [] o nx la rfl ho (by simpa [ct] using hi)
  simp only [List.length_nil] at g1 g2
  have hlen:(rIn n l 0 nx la o).2.2.length = l.length:=by rw [Ea];exact ho
  have g3:Inv l (n + 1) 0 (rIn n l 0 nx la o).1 (rIn n l 0 nx la o).2.1:=by
   obtain ⟨a1,a2,a3,a4,a5⟩:=g1
   refine ⟨a1,by omega,a3,a4,?_⟩
   obtain ⟨m,rfl⟩:∃ m,n = m + 1:=⟨n - 1,by omega⟩
   simp only [fst]
   rw [← a5]
   by_cases q:0 < (rIn ((m + 1:Nat):Int) l 0 nx la o).2.1
   ·rw [if_pos q,if_pos q]
    have e:m + 1 + 1 - (rIn ((m + 1:Nat):Int) l 0 nx la o).2.1.toNat = (m + 1 - (rIn ((m + 1:Nat):Int) l 0 nx la o).2.1.toNat) + 1:=by omega
    rw [e,Int.pow_succ,← Int.mul_assoc]
    omega
   ·rw [if_neg q,if_neg q,a4 (by omega)];rfl
  rw [Rt l h k (n + 1) _ _ _ (by omega) (by omega) hlen g3 j hj,g2 j hj]
  by_cases q1:((n + 1:Nat):Int)≤l.getD j 0∧l.getD j 0≤15
  ·rw [if_pos q1,if_pos ⟨by omega,q1.2⟩]
  ·rw [if_neg q1]
   by_cases q2:l.getD j 0 = n
   ·rw [if_pos ⟨q2,by omega⟩,if_pos (by omega)]
   ·rw [if_neg (fun z=>q2 z.1),if_neg (by omega)]
theorem Ru (l:List Int):∀ (todo pre o:List Int),l = pre ++ todo→o.length = l.length→∀ j,j < l.length→(Un todo pre.length o).getD j 0 = if l.getD j 0 = 0∧pre.length≤j then -1 else o.getD j 0
 | [],pre,o,e,ho,j,hj=>by
  simp only [List.append_nil] at e
  subst e
  rw [if_neg (by omega)];rfl
 | x :: r,pre,o,e,ho,j,hj=>by
  have hat:l.getD pre.length 0 = x:=by rw [e];simp
  have el:pre.length + 1 = (pre ++ [x]).length:=by simp
  have hpl:pre.length < l.length:=by rw [e];simp
  unfold Un
  rw [el,Ru l r (pre ++ [x]) _ (by simp [e]) (by split <;> simp [ho]) j hj]
  simp only [List.length_append,List.length_cons,List.length_nil]
  by_cases q:pre.length = j
  ·subst q
   rw [if_neg (by omega),hat]
   by_cases q2:x = 0
   ·rw [if_pos q2,if_pos ⟨q2,Nat.le_refl _⟩,pG _ _ _ _ (by omega),if_pos rfl]
   ·rw [if_neg q2,if_neg (fun z=>q2 z.1)]
  ·have e2:(if x = 0 then o.set pre.length (-1) else o).getD j 0 = o.getD j 0:=by
    split
    ·rw [pG _ _ _ _ (by omega),if_neg q]
    ·rfl
   rw [e2]
   by_cases q2:l.getD j 0 = 0
   ·by_cases q3:pre.length≤j
    ·rw [if_pos ⟨q2,by omega⟩,if_pos ⟨q2,q3⟩]
    ·rw [if_neg (by omega),if_neg (by omega)]
   ·rw [if_neg (fun z=>q2 z.1),if_neg (fun z=>q2 z.1)]
theorem P6 {l:List Int} (h:l.length≤320) (hf:fine l = true) (j:Nat) (hj:j < l.length):(iq l).getD j 0 = code l j:=by
 unfold iq
 have hlen:(PZ l 15 1 0 0 (List.replicate l.length 0)).2.2.length = l.length:=by rw [Gh];simp
 have h1:=Ru l l [] _ rfl hlen j hj
 simp only [List.length_nil] at h1
 have h2:=Rt l h 15 1 (List.replicate l.length 0) 0 0 rfl (by omega) (by simp) ⟨by omega,by omega,by omega,fun _=>rfl,by simp [fst]⟩ j hj
 rw [h1,h2]
 have hr:0≤l.getD j 0∧l.getD j 0≤15:=by
  have:=List.all_eq_true.1 hf (l.getD j 0) (by rw [List.getD_eq_getElem?_getD,List.getElem?_eq_getElem hj];exact List.getElem_mem hj)
  simpa using this
 by_cases q:l.getD j 0 = 0
 ·rw [if_pos ⟨q,by omega⟩];simp only [code];rw [if_neg (by omega)]
 ·rw [if_neg (fun z=>q z.1),if_pos (by omega)]
theorem yJ (l:List Int):(nR l).length = l.length:=by unfold nR;rw [zq]
theorem NY (l:List Int):(iq l).length = l.length:=by unfold iq;rw [NS,Gh];simp
theorem UO {l:List Int} (h:l.length≤320) (hf:fine l = true):nR l = iq l:=by
 refine List.ext_getElem (by rw [yJ,NY]) fun j h1 h2=>?_
 have hj:j < l.length:=by rw [yJ] at h1;exact h1
 have e1:=Ho h hf j hj
 have e2:=P6 h hf j hj
 rw [List.getD_eq_getElem?_getD,List.getElem?_eq_getElem h1] at e1
 rw [List.getD_eq_getElem?_getD,List.getElem?_eq_getElem h2] at e2
 simp only [Option.getD_some] at e1 e2
 rw [e1,e2]
end Go.Proofs.Ytcllinmgllmpmaa
namespace Go.Proofs.Ytcllinmgllmpmaa
open Go.AM
theorem o9 {l:List Int} (he:(bC l).2 = 0):l.length≤320∧fine l = true:=by
 unfold bC at he
 rw [CS] at he
 by_cases h:320 < (l.length:Int)
 ·rw [if_pos h] at he;cases he
 ·rw [if_neg h] at he
  by_cases hf:fine l = true
  ·exact ⟨by omega,hf⟩
  ·simp [hf] at he
end Go.Proofs.Ytcllinmgllmpmaa
namespace Go.Proofs.Ytcllinmgllmpmaa
open Go.AM
theorem bits_nat {v:Nat} (h:v < 9223372036854775808):(AM.bits .i64 (v:Int)).toNat = v:=by
 unfold AM.bits
 simp [IntKind.bits]
 omega
def iU (b:List UInt8) (i:Nat):Int:=((b.getD (i / 8) 0).toNat / 2 ^ (i % 8) % 2:Nat)
theorem Tv {C:Ctx} {T:Cf} {f m:Nat} {c:Code} {σ:Type} (I:σ→Prop) (fr:σ→AM.Frame) (H:σ→AM.Heap) (P:σ→AM.Out→Prop) (μ:σ→Nat)
  (step:∀ s,I s→∃ o,Run C T f m c (fr s) (H s) o∧((∃ s',I s'∧o = ⟨.normal,fr s',H s'⟩∧(∀ o',P s' o'→P s o')∧μ s' < μ s)∨(o.ex ≠ .normal∧P s o))) (s:σ) (hs:I s) :
  ∃ o,Run C T f m (.loop c) (fr s) (H s) o∧P s o:=by
 generalize hn:μ s = n
 induction n using Nat.strongRecOn generalizing s with
 | _ n ih =>
  obtain ⟨o,h1,⟨s',a,b,c,d⟩ | ⟨a,b⟩⟩:=step s hs
  ·obtain ⟨o',g1,g2⟩:=ih (μ s') (by omega) s' a rfl
   subst b
   exact ⟨o',Run.xO h1 g1,c _ g2⟩
  ·exact ⟨o,Run.Ak h1 a,b⟩
def mxL:Int→List Int→Int
 | m,[]=>m
 | m,x :: r=>mxL (if m < x then x else m) r
theorem BD:∀ (l:List Int) (m:Int),0≤m→m≤15→fine l = true→0≤mxL m l∧mxL m l≤15
 | [],m,h0,h1,_=>⟨h0,h1⟩
 | x :: r,m,h0,h1,hf=>by
  obtain ⟨h,hr⟩:=xY.1 hf
  unfold mxL
  refine BD r _ ?_ ?_ hr <;> split <;> omega
def jF (i code:Int):List Int→List Int→Nat→Option Nat
 | x :: r,y :: cs,j=>if x = i∧y = code then some j else jF i code r cs (j + 1)
 | _,_,_=>none
def Oz (l codes:List Int) (b:List UInt8) (a:Nat):Nat→Nat→Int→Int × Int × Int
 | 0,_,_=>(0,0,5)
 | k + 1,i,code=>if 8 * b.length - (i:Int) < a then (0,0,4) else
  match jF i (2 * code + iU b (a + i - 1)) l codes 0 with
  | some j=>(j,i,0)
  | none=>Oz l codes b a k (i + 1) (2 * code + iU b (a + i - 1))
def aa0 (l codes:List Int) (b:List UInt8) (a:Nat):Int × Int × Int:=Oz l codes b a (mxL 0 l).toNat 1 0
def t3 (r:Int × Int × Int):AV:=.tup [.int .i64 r.1,.int .i64 r.2.1,.int .i64 r.2.2]
def sK (l:List Int) (b:List UInt8) (a:Int):Int × Int × Int :=
 if (bC l).2 = 0 then (if a < 0 then (0,0,2) else aa0 l (iq l) b a.toNat) else (0,0,(bC l).2)
theorem bsI (H:AM.Heap) (x:Int):dA X H 56 1 [(0,.int .i64 x)] = some (.ro 1 (.pi .i64 [x]) 0,H):=by kernel_rfl
theorem EZ {C:Ctx} {T:Cf} {f m:Nat} {a b:Code} {fr fr1:AM.Frame} {H H1:AM.Heap} {Q:AM.Out→Prop} (h0:Run C T f m a fr H ⟨.normal,fr1,H1⟩) (h1:∃ o,Run C T f m b fr1 H1 o∧Q o):∃ o,Run C T f m (.seq a b) fr H o∧Q o:=by
 obtain ⟨o,g1,g2⟩:=h1
 exact ⟨o,Run.seq h0 g1,g2⟩
theorem XQ {C:Ctx} {T:Cf} {f m id:Nat} {a c rest:Code} {fr fr1:AM.Frame} {H H1:AM.Heap} {P Q:AM.Out→Prop} (h0:Run C T f m a fr H ⟨.normal,fr1,H1⟩) (hl:∃ o,Run C T f m c fr1 H1 o∧P o)
  (h1:∀ o,P o→(∃ fr' H',jG id o = ⟨.normal,fr',H'⟩∧∃ o',Run C T f m rest fr' H' o'∧Q o')∨((jG id o).ex ≠ .normal∧Q (jG id o))):∃ o,Run C T f m (.seq (.seq a (.block id c)) rest) fr H o∧Q o:=by
 obtain ⟨o,g1,g2⟩:=hl
 have hb:Run C T f m (.seq a (.block id c)) fr H (jG id o):=Run.seq h0 (Run.block' g1)
 rcases h1 o g2 with ⟨fr',H',e,o',h2,h3⟩ | ⟨h2,h3⟩
 ·rw [e] at hb;exact ⟨o',Run.seq hb h2,h3⟩
 ·exact ⟨_,Run.bH hb h2,h3⟩
end Go.Proofs.Ytcllinmgllmpmaa
namespace Go.Proofs.Ytcllinmgllmpmaa
open Go.AM
inductive Res (α:Type) where
 | ok (a:α) (k:Nat) (o:List UInt8)
 | err (e:Int)
abbrev PM (α:Type):=Nat→List UInt8→Res α
def mG {α:Type} (a:α):PM α:=fun k o=>.ok a k o
def nU {α:Type} (e:Int):PM α:=fun _ _=>.err e
def dD {α β:Type} (m:PM α) (f:α→PM β):PM β:=fun k o=>match m k o with
 | .ok a k' o'=>f a k' o'
 | .err e=>.err e
def wz (b:List UInt8):PM Int:=fun k o=>if k < 8 * b.length then .ok (iU b k) (k + 1) o else .err 4
def qj (mo:Int) (c:UInt8):PM Unit:=fun k o=>if (o.length:Int) < mo then .ok () k (o ++ [c]) else .err 3
def Xo:PM Unit:=fun k o=>.ok () ((k + 7) / 8 * 8) o
def fO (b:List UInt8):Nat→PM Int
 | 0=>mG 0
 | n + 1=>dD (fO b n) fun x=>dD (wz b) fun y=>mG (x + 2 ^ n * y)
def rF (m:PM Unit):Nat→PM Unit
 | 0=>mG ()
 | n + 1=>dD m fun _=>rF m n
def decP (b:List UInt8) (l codes:List Int):Nat→Nat→Int→PM Nat
 | 0,_,_=>nU 5
 | k + 1,i,x=>dD (wz b) fun y=>match jF i (2 * x + y) l codes 0 with
  | some j=>mG j
  | none=>decP b l codes k (i + 1) (2 * x + y)
def uK (b:List UInt8) (l:List Int):PM Nat:=if (bC l).2 = 0 then decP b l (iq l) (mxL 0 l).toNat 1 0 else nU (bC l).2
def BI (b:List UInt8) (mo:Int):PM Unit:=dD Xo fun _=>dD (fO b 16) fun n=>dD (fO b 16) fun m =>
 if n + m = 65535 then rF (dD (fO b 8) fun c=>qj mo (UInt8.ofNat c.toNat)) n.toNat else nU 5
def OB:List (Int × Nat):=[(3,0),(4,0),(5,0),(6,0),(7,0),(8,0),(9,0),(10,0),(11,1),(13,1),(15,1),(17,1),(19,2),(23,2),(27,2),(31,2),(35,3),(43,3),(51,3),(59,3),(67,4),(83,4),(99,4),(115,4),(131,5),(163,5),(195,5),(227,5),(258,0)]
def BK (s:Nat):Int:=(OB.getD (s - 257) (0,0)).1
def DF (s:Nat):Nat:=(OB.getD (s - 257) (0,0)).2
def lW (d:Nat):Nat:=if d < 4 then 0 else d / 2 - 1
def tN (d:Nat):Nat:=if d < 4 then 1 + d else 1 + (2 + d % 2) * 2 ^ (d / 2 - 1)
def yP (mo:Int) (d:Nat):PM Unit:=fun k o=>qj mo (o.getD (o.length - d) 0) k o
def OC (mo:Int) (d n:Nat):PM Unit:=fun k o=>if d > o.length then .err 5 else rF (yP mo d) n k o
def DI (b:List UInt8) (mo:Int) (dl:List Int) (s:Nat):PM Unit :=
 if 286≤s then nU 5 else dD (fO b (DF s)) fun x=>dD (uK b dl) fun d =>
  if 30≤d then nU 5 else dD (fO b (lW d)) fun y=>OC mo (tN d + y.toNat) (BK s + x).toNat
def rG (b:List UInt8) (mo:Int) (ll dl:List Int):Nat→PM Unit
 | 0=>nU 99
 | f + 1=>dD (uK b ll) fun s=>if s = 256 then mG () else if s < 256 then dD (qj mo (UInt8.ofNat s)) fun _=>rG b mo ll dl f
  else dD (DI b mo dl s) fun _=>rG b mo ll dl f
def yS:List Nat:=[16,17,18,0,8,7,9,6,10,5,11,4,12,3,13,2,14,1,15]
def hcP (b:List UInt8):List Nat→List Int→PM (List Int)
 | [],c=>mG c
 | i :: r,c=>dD (fO b 3) fun x=>hcP b r (c.set i x)
def vK (n:Nat) (acc:List Int) (x:Int) (t:Nat):PM (List Int):=if n < acc.length + t then nU 5 else mG (acc ++ List.replicate t x)
def DK (b:List UInt8) (n:Nat) (acc:List Int) (s:Nat):PM (List Int) :=
 if s = 16 then (if acc = [] then nU 5 else dD (fO b 2) fun t=>vK n acc (acc.getLastD 0) (3 + t.toNat))
 else if s = 17 then dD (fO b 3) fun t=>vK n acc 0 (3 + t.toNat)
 else if s = 18 then dD (fO b 7) fun t=>vK n acc 0 (11 + t.toNat)
 else mG (acc ++ [(s:Int)])
def uP (b:List UInt8) (cl:List Int) (n:Nat):Nat→List Int→PM (List Int)
 | 0,_=>nU 99
 | f + 1,acc=>if n≤acc.length then mG acc else dD (uK b cl) fun s=>dD (DK b n acc s) fun a2=>uP b cl n f a2
def Gq (l:List Int):Bool:=(l.filter (0 < ·)) == [1]
def Gs (l:List Int):Bool:=(l.filter (0 < ·)) == []
def Ac (l:List Int):Bool:=(bC l).2 == 0 && (l.getD 256 0 != 0 && ((bC l).1 || Gq l))
def Ad (l:List Int):Bool:=(bC l).2 == 0 && ((bC l).1 || (Gq l || Gs l))
def BU (b:List UInt8) (F:Nat):PM (List Int × List Int):=dD (fO b 5) fun nl=>dD (fO b 5) fun nd=>dD (fO b 4) fun nc =>
 if 286 < 257 + nl∨30 < 1 + nd then nU 5 else dD (hcP b (yS.take (4 + nc).toNat) (List.replicate 19 0)) fun cl =>
  if bC cl = (true,0) then dD (uP b cl ((257 + nl) + (1 + nd)).toNat F []) fun a =>
   if (Ac (a.take (257 + nl).toNat) && Ad (a.drop (257 + nl).toNat)) = true then mG (a.take (257 + nl).toNat,a.drop (257 + nl).toNat) else nU 5
  else nU 5
def Aa:List Int:=List.replicate 144 8 ++ List.replicate 112 9 ++ List.replicate 24 7 ++ List.replicate 8 8
def yR:List Int:=List.replicate 32 5
structure Blk where
 kind:Int
 last:Bool
 k:Nat
 n:Nat
def CQ (b:List UInt8) (mo:Int) (F:Nat) (t:Int):PM Unit :=
 if t = 0 then BI b mo else if t = 1 then rG b mo Aa yR F else if t = 2 then dD (BU b F) fun c=>rG b mo c.1 c.2 F else nU 5
def F5 (b:List UInt8) (mo:Int) (F:Nat):PM Blk:=fun k o=>dD (fO b 1) (fun l=>dD (fO b 2) fun t=>dD (CQ b mo F t) fun _=>fun k' o'=>.ok ⟨t,l == 1,k,o'.length - o.length⟩ k' o') k o
def qp (b:List UInt8) (mo:Int) (F:Nat):Nat→PM (List Blk)
 | 0=>nU 99
 | f + 1=>dD (F5 b mo F) fun x=>if x.last = true then mG [x] else dD (qp b mo F f) fun r=>mG (x :: r)
def vM (F:Nat) (b:List UInt8) (mo:Int):List UInt8 × Int × Int :=
 if mo < 0 then ([],0,2) else match qp b mo F F 0 [] with
 | .ok _ k o=>(o,((k + 7) / 8:Nat),0)
 | .err e=>([],0,e)
end Go.Proofs.Ytcllinmgllmpmaa
namespace Go.Proofs.Ytcllinmgllmpmaa
open Go.AM
structure Loc {α:Type} (m:List UInt8→Int→PM α):Prop where
 up:∀ b mo k o a k' o',m b mo k o = .ok a k' o'→k≤8 * b.length→k≤k'∧k'≤8 * b.length∧(∃ x,o' = o ++ x)∧((o.length:Int)≤mo→(o'.length:Int)≤mo)
 same:∀ b b2 mo mo2 k o a k' o',m b mo k o = .ok a k' o'→k≤8 * b.length→(∀ i,i < k'→iU b2 i = iU b i)→k'≤8 * b2.length→(o'.length:Int)≤mo2→m b2 mo2 k o = .ok a k' o'
 cut:∀ b b2 mo k o a k' o',m b mo k o = .ok a k' o'→k≤8 * b.length→(∀ i,i < 8 * b2.length→iU b2 i = iU b i)→k≤8 * b2.length→8 * b2.length < k'→(o.length:Int)≤mo→m b2 mo k o = .err 4
 few:∀ b mo mo2 k o a k' o',m b mo k o = .ok a k' o'→k≤8 * b.length→(o.length:Int)≤mo2→mo2 < o'.length→m b mo2 k o = .err 3
theorem iO {α:Type} {a a':α} {k k':Nat} {o o':List UInt8} (h:Res.ok a k o = .ok a' k' o'):a = a'∧k = k'∧o = o':=by
 cases h;exact ⟨rfl,rfl,rfl⟩
theorem jh {α β:Type} {m:PM α} {f:α→PM β} {k k':Nat} {o o':List UInt8} {b:β} (h:dD m f k o = .ok b k' o'):∃ a k1 o1,m k o = .ok a k1 o1∧f a k1 o1 = .ok b k' o':=by
 unfold dD at h
 cases hm:m k o with
 | ok a k1 o1=>rw [hm] at h;exact ⟨a,k1,o1,rfl,h⟩
 | err e=>rw [hm] at h;cases h
theorem dQ {α β:Type} {m:PM α} {f:α→PM β} {k k1:Nat} {o o1:List UInt8} {a:α} (h:m k o = .ok a k1 o1):dD m f k o = f a k1 o1:=by
 unfold dD;rw [h]
theorem EW {α β:Type} {m:PM α} {f:α→PM β} {k:Nat} {o:List UInt8} {e:Int} (h:m k o = .err e):dD m f k o = .err e:=by
 unfold dD;rw [h]
theorem Loc.ret {α:Type} (a:α):Loc (fun _ _=>mG a) where
 up:=by
  intro b mo k o a' k' o' h hk
  obtain ⟨_,rfl,rfl⟩:=iO h
  exact ⟨Nat.le_refl _,hk,⟨[],by simp⟩,fun h=>h⟩
 same:=fun b b2 mo mo2 k o a k' o' h _ _ _ _=>h
 cut:=by
  intro b b2 mo k o a' k' o' h hk _ h2 h3
  obtain ⟨_,rfl,rfl⟩:=iO h
  omega
 few:=by
  intro b mo mo2 k o a' k' o' h hk h2 h3
  obtain ⟨_,rfl,rfl⟩:=iO h
  omega
theorem Loc.bad {α:Type} (e:Int):Loc (α:=α) (fun _ _=>nU e) where
 up:=by intro b mo k o a' k' o' h;cases h
 same:=by intro b b2 mo mo2 k o a' k' o' h;cases h
 cut:=by intro b b2 mo k o a' k' o' h;cases h
 few:=by intro b mo mo2 k o a' k' o' h;cases h
theorem Loc.bnd {α β:Type} {m:List UInt8→Int→PM α} {f:α→List UInt8→Int→PM β} (hm:Loc m) (hf:∀ a,Loc (f a)):Loc (fun b mo=>dD (m b mo) fun a=>f a b mo) where
 up:=by
  intro b mo k o a' k' o' h hk
  obtain ⟨a,k1,o1,h1,h2⟩:=jh h
  obtain ⟨e1,e2,⟨x,rfl⟩,e4⟩:=hm.up _ _ _ _ _ _ _ h1 hk
  obtain ⟨f1,f2,⟨y,rfl⟩,f4⟩:=(hf a).up _ _ _ _ _ _ _ h2 e2
  exact ⟨by omega,f2,⟨x ++ y,by simp⟩,fun h=>f4 (e4 h)⟩
 same:=by
  intro b b2 mo mo2 k o a' k' o' h hk hb hl ho
  obtain ⟨a,k1,o1,h1,h2⟩:=jh h
  obtain ⟨e1,e2,⟨x,rfl⟩,e4⟩:=hm.up _ _ _ _ _ _ _ h1 hk
  obtain ⟨f1,f2,⟨y,rfl⟩,f4⟩:=(hf a).up _ _ _ _ _ _ _ h2 e2
  have e5:=hm.same b b2 mo mo2 k o a k1 _ h1 hk (fun i hi=>hb i (by omega)) (by omega) (by simp at ho ⊢;omega)
  rw [dQ e5]
  exact (hf a).same b b2 mo mo2 _ _ _ _ _ h2 e2 hb hl ho
 cut:=by
  intro b b2 mo k o a' k' o' h hk hb hl hc hm0
  obtain ⟨a,k1,o1,h1,h2⟩:=jh h
  obtain ⟨e1,e2,⟨x,rfl⟩,e4⟩:=hm.up _ _ _ _ _ _ _ h1 hk
  by_cases h3:8 * b2.length < k1
  ·rw [EW (hm.cut b b2 mo k o a k1 _ h1 hk hb hl h3 hm0)]
  ·rw [dQ (hm.same b b2 mo mo k o a k1 _ h1 hk (fun i hi=>hb i (by omega)) (by omega) (e4 hm0))]
   exact (hf a).cut b b2 mo _ _ _ _ _ h2 e2 hb (by omega) hc (e4 hm0)
 few:=by
  intro b mo mo2 k o a' k' o' h hk h2 h3
  obtain ⟨a,k1,o1,h1,h4⟩:=jh h
  obtain ⟨e1,e2,⟨x,rfl⟩,e4⟩:=hm.up _ _ _ _ _ _ _ h1 hk
  by_cases h5:mo2 < ((o ++ x).length:Int)
  ·rw [EW (hm.few b mo mo2 k o a k1 _ h1 hk h2 h5)]
  ·rw [dQ (hm.same b b mo mo2 k o a k1 _ h1 hk (fun _ _=>rfl) e2 (by omega))]
   exact (hf a).few b mo mo2 _ _ _ _ _ h4 e2 (by omega) h3
theorem Loc.look {α:Type} {f:Nat→List UInt8→List UInt8→Int→PM α} (h:∀ k o,Loc (f k o)):Loc (fun b mo k o=>f k o b mo k o) where
 up:=fun b mo k o a k' o' h1 hk=>(h k o).up _ _ _ _ _ _ _ h1 hk
 same:=fun b b2 mo mo2 k o a k' o' h1 hk hb hl ho=>(h k o).same _ _ _ _ _ _ _ _ _ h1 hk hb hl ho
 cut:=fun b b2 mo k o a k' o' h1 hk hb hl hc hm=>(h k o).cut _ _ _ _ _ _ _ _ h1 hk hb hl hc hm
 few:=fun b mo mo2 k o a k' o' h1 hk h2 h3=>(h k o).few _ _ _ _ _ _ _ _ h1 hk h2 h3
theorem Loc.ite {α:Type} {c:Prop} [Decidable c] {m m2:List UInt8→Int→PM α} (h:Loc m) (h2:Loc m2):Loc (fun b mo=>if c then m b mo else m2 b mo):=by
 by_cases hc:c
 ·simpa [hc] using h
 ·simpa [hc] using h2
theorem Rx:Loc (fun b _=>wz b) where
 up:=by
  intro b mo k o a k' o' h hk
  unfold wz at h
  split at h
  ·obtain ⟨_,rfl,rfl⟩:=iO h
   exact ⟨by omega,by omega,⟨[],by simp⟩,fun h=>h⟩
  ·cases h
 same:=by
  intro b b2 mo mo2 k o a k' o' h hk hb hl ho
  unfold wz at h ⊢
  split at h
  ·obtain ⟨rfl,rfl,rfl⟩:=iO h
   rw [if_pos (by omega),hb k (by omega)]
  ·cases h
 cut:=by
  intro b b2 mo k o a k' o' h hk hb hl hc hm
  unfold wz at h ⊢
  split at h
  ·obtain ⟨rfl,rfl,rfl⟩:=iO h
   rw [if_neg (by omega)]
  ·cases h
 few:=by
  intro b mo mo2 k o a k' o' h hk h2 h3
  unfold wz at h
  split at h
  ·obtain ⟨rfl,rfl,rfl⟩:=iO h
   omega
  ·cases h
theorem YH:Loc (fun _ _=>Xo) where
 up:=by
  intro b mo k o a k' o' h hk
  obtain ⟨_,rfl,rfl⟩:=iO h
  exact ⟨by omega,by omega,⟨[],by simp⟩,fun h=>h⟩
 same:=fun b b2 mo mo2 k o a k' o' h _ _ _ _=>h
 cut:=by
  intro b b2 mo k o a k' o' h hk hb hl hc hm
  obtain ⟨_,rfl,rfl⟩:=iO h
  omega
 few:=by
  intro b mo mo2 k o a k' o' h hk h2 h3
  obtain ⟨_,rfl,rfl⟩:=iO h
  omega
theorem DW (c:UInt8):Loc (fun _ mo=>qj mo c) where
 up:=by
  intro b mo k o a k' o' h hk
  unfold qj at h
  split at h
  ·obtain ⟨_,rfl,rfl⟩:=iO h
   exact ⟨by omega,by omega,⟨[c],rfl⟩,fun _=>by simp;omega⟩
  ·cases h
 same:=by
  intro b b2 mo mo2 k o a k' o' h hk hb hl ho
  unfold qj at h ⊢
  split at h
  ·obtain ⟨rfl,rfl,rfl⟩:=iO h
   rw [if_pos (by simp at ho;omega)]
  ·cases h
 cut:=by
  intro b b2 mo k o a k' o' h hk hb hl hc hm
  unfold qj at h
  split at h
  ·obtain ⟨rfl,rfl,rfl⟩:=iO h
   omega
  ·cases h
 few:=by
  intro b mo mo2 k o a k' o' h hk h2 h3
  unfold qj at h ⊢
  split at h
  ·obtain ⟨rfl,rfl,rfl⟩:=iO h
   rw [if_neg (by simp at h3;omega)]
  ·cases h
theorem iG:∀ n,Loc (fun b _=>fO b n)
 | 0=>Loc.ret 0
 | n + 1=>Loc.bnd (f:=fun x b _=>dD (wz b) fun y=>mG (x + 2 ^ n * y)) (iG n) fun x=>Loc.bnd (f:=fun y _ _=>mG (x + 2 ^ n * y)) Rx fun y=>Loc.ret _
theorem Loc.rep {m:List UInt8→Int→PM Unit} (h:Loc m):∀ n,Loc (fun b mo=>rF (m b mo) n)
 | 0=>Loc.ret ()
 | n + 1=>Loc.bnd (f:=fun _ b mo=>rF (m b mo) n) h fun _=>Loc.rep h n
theorem Ry (l codes:List Int):∀ (k i:Nat) (x:Int),Loc (fun b _=>decP b l codes k i x)
 | 0,_,_=>Loc.bad 5
 | k + 1,i,x=>by
  refine Loc.bnd (f:=fun y b _=>match jF i (2 * x + y) l codes 0 with
   | some j=>mG j
   | none=>decP b l codes k (i + 1) (2 * x + y)) Rx fun y=>?_
  cases jF i (2 * x + y) l codes 0 with
  | some j=>exact Loc.ret j
  | none=>exact Ry l codes k (i + 1) (2 * x + y)
theorem zT (l:List Int):Loc (fun b _=>uK b l):=by
 unfold uK
 exact Loc.ite (Ry l _ _ _ _) (Loc.bad _)
theorem YI:Loc BI:=by
 unfold BI
 refine Loc.bnd (f:=fun _ b mo=>_) YH fun _=>?_
 refine Loc.bnd (f:=fun n b mo=>_) (iG 16) fun n=>?_
 refine Loc.bnd (f:=fun m b mo=>_) (iG 16) fun m=>?_
 refine Loc.ite (Loc.rep (Loc.bnd (f:=fun c b mo=>_) (iG 8) fun c=>DW _) _) (Loc.bad 5)
theorem Qv (d:Nat):Loc (fun _ mo=>yP mo d):=by
 unfold yP
 exact Loc.look (f:=fun k o b mo=>qj mo (o.getD (o.length - d) 0)) fun k o=>DW _
theorem YJ (d n:Nat):Loc (fun _ mo=>OC mo d n):=by
 unfold OC
 refine Loc.look (f:=fun k o b mo=>fun k o2=>if d > o.length then .err 5 else rF (yP mo d) n k o2) fun k o=>?_
 by_cases h:d > o.length
 ·simp only [h,if_true];exact Loc.bad 5
 ·simp only [h,if_false];exact Loc.rep (Qv d) n
theorem Qw (dl:List Int) (s:Nat):Loc (fun b mo=>DI b mo dl s):=by
 unfold DI
 refine Loc.ite (Loc.bad 5) ?_
 refine Loc.bnd (f:=fun x b mo=>_) (iG _) fun x=>?_
 refine Loc.bnd (f:=fun d b mo=>_) (zT dl) fun d=>?_
 refine Loc.ite (Loc.bad 5) ?_
 exact Loc.bnd (f:=fun y b mo=>_) (iG _) fun y=>YJ _ _
theorem Eb (ll dl:List Int):∀ F,Loc (fun b mo=>rG b mo ll dl F)
 | 0=>Loc.bad 99
 | f + 1=>by
  unfold rG
  refine Loc.bnd (f:=fun s b mo=>_) (zT ll) fun s=>?_
  refine Loc.ite (Loc.ret ()) (Loc.ite ?_ ?_)
  ·exact Loc.bnd (f:=fun _ b mo=>rG b mo ll dl f) (DW _) fun _=>Eb ll dl f
  ·exact Loc.bnd (f:=fun _ b mo=>rG b mo ll dl f) (Qw dl s) fun _=>Eb ll dl f
theorem WL:∀ (r:List Nat) (c:List Int),Loc (fun b _=>hcP b r c)
 | [],c=>Loc.ret c
 | i :: r,c=>Loc.bnd (f:=fun x b _=>hcP b r (c.set i x)) (iG 3) fun x=>WL r _
theorem J9 (n:Nat) (acc:List Int) (x:Int) (t:Nat):Loc (fun _ _=>vK n acc x t):=by
 unfold vK
 exact Loc.ite (Loc.bad 5) (Loc.ret _)
theorem QA (n:Nat) (acc:List Int) (s:Nat):Loc (fun b _=>DK b n acc s):=by
 unfold DK
 refine Loc.ite (Loc.ite (Loc.bad 5) ?_) (Loc.ite ?_ (Loc.ite ?_ (Loc.ret _)))
 ·exact Loc.bnd (f:=fun t b _=>_) (iG 2) fun t=>J9 _ _ _ _
 ·exact Loc.bnd (f:=fun t b _=>_) (iG 3) fun t=>J9 _ _ _ _
 ·exact Loc.bnd (f:=fun t b _=>_) (iG 7) fun t=>J9 _ _ _ _
theorem Rz (cl:List Int) (n:Nat):∀ (F:Nat) (acc:List Int),Loc (fun b _=>uP b cl n F acc)
 | 0,_=>Loc.bad 99
 | f + 1,acc=>by
  unfold uP
  refine Loc.ite (Loc.ret acc) ?_
  refine Loc.bnd (f:=fun s b mo=>_) (zT cl) fun s=>?_
  exact Loc.bnd (f:=fun a2 b _=>uP b cl n f a2) (QA n acc s) fun a2=>Rz cl n f a2
theorem YK (F:Nat):Loc (fun b _=>BU b F):=by
 unfold BU
 refine Loc.bnd (f:=fun nl b mo=>_) (iG 5) fun nl=>?_
 refine Loc.bnd (f:=fun nd b mo=>_) (iG 5) fun nd=>?_
 refine Loc.bnd (f:=fun nc b mo=>_) (iG 4) fun nc=>?_
 refine Loc.ite (Loc.bad 5) ?_
 refine Loc.bnd (f:=fun cl b mo=>_) (WL _ _) fun cl=>?_
 refine Loc.ite ?_ (Loc.bad 5)
 refine Loc.bnd (f:=fun a b mo=>_) (Rz cl _ F []) fun a=>?_
 exact Loc.ite (Loc.ret _) (Loc.bad 5)
theorem J3 (F:Nat) (t:Int):Loc (fun b mo=>CQ b mo F t):=by
 unfold CQ
 refine Loc.ite YI (Loc.ite (Eb _ _ F) (Loc.ite ?_ (Loc.bad 5)))
 exact Loc.bnd (f:=fun c b mo=>rG b mo c.1 c.2 F) (YK F) fun c=>Eb _ _ F
theorem YL (F:Nat):Loc (fun b mo=>F5 b mo F):=by
 unfold F5
 refine Loc.look (f:=fun k o b mo=>dD (fO b 1) (fun l=>dD (fO b 2) fun t=>dD (CQ b mo F t) fun _=>fun k' o'=>.ok (⟨t,l == 1,k,o'.length - o.length⟩:Blk) k' o')) fun k o=>?_
 refine Loc.bnd (f:=fun l b mo=>_) (iG 1) fun l=>?_
 refine Loc.bnd (f:=fun t b mo=>_) (iG 2) fun t=>?_
 refine Loc.bnd (f:=fun _ b mo=>_) (J3 F t) fun _=>?_
 exact Loc.look (f:=fun k' o' b mo=>mG (⟨t,l == 1,k,o'.length - o.length⟩:Blk)) fun k' o'=>Loc.ret _
theorem Qz (F:Nat):∀ f,Loc (fun b mo=>qp b mo F f)
 | 0=>Loc.bad 99
 | f + 1=>by
  unfold qp
  refine Loc.bnd (f:=fun x b mo=>_) (YL F) fun x=>?_
  refine Loc.ite (Loc.ret _) ?_
  exact Loc.bnd (f:=fun r _ _=>mG (x :: r)) (Qz F f) fun r=>Loc.ret _
end Go.Proofs.Ytcllinmgllmpmaa
namespace Go.Proofs.Ytcllinmgllmpmaa
open Go.AM
theorem ads {y u k j:Nat} (hu:u < 2) (hy:y / 2 ^ k % 2 = 0):(y ||| u * 2 ^ k) / 2 ^ j % 2 = if j = k then u else y / 2 ^ j % 2:=by
 have e:∀ x i:Nat,x / 2 ^ i % 2 = if x.testBit i then 1 else 0:=by
  intro x i
  rw [Nat.testBit_eq_decide_div_mod_eq]
  by_cases h:x / 2 ^ i % 2 = 1
  ·simp [h]
  ·rw [if_neg (by simpa using h)];omega
 have hyk:y.testBit k = false:=by
  rw [Nat.testBit_eq_decide_div_mod_eq,hy];rfl
 rw [e,e,Nat.testBit_or]
 have hu2:u = 0∨u = 1:=by omega
 rcases hu2 with rfl | rfl
 ·rw [Nat.zero_mul,Nat.zero_testBit,Bool.or_false]
  by_cases hj:j = k
  ·subst hj;simp [hyk]
  ·simp [hj]
 ·rw [Nat.one_mul,Nat.testBit_two_pow]
  by_cases hj:j = k
  ·subst hj;simp
  ·have:¬ k = j:=fun h=>hj h.symm
   simp [hj,this]
def Cln (s:Ws):Prop:=∀ i,s.k≤i→iU s.o i = 0
structure Gd (s:Ws):Prop where
 ok:jM s
 cl:Cln s
structure Ext (s s':Ws):Prop where
 le:s.k≤s'.k
 at':∀ i,i < s.k→iU s'.o i = iU s.o i
theorem Ext.refl (s:Ws):Ext s s:=⟨Nat.le_refl _,fun _ _=>rfl⟩
theorem Ext.trans {s s1 s2:Ws} (h:Ext s s1) (h2:Ext s1 s2):Ext s s2:=⟨Nat.le_trans h.le h2.le,fun i hi=>by rw [h2.at' i (Nat.lt_of_lt_of_le hi h.le),h.at' i hi]⟩
theorem Ec {s:Ws} {x:Int} (h:Gd s) (i:Nat):iU (pW s x).o i = if i = s.k then x % 2 else iU s.o i:=by
 have hok:=h.ok
 unfold jM at hok
 have h0:∀ i,iU (if s.k % 8 = 0 then s.o ++ [0] else s.o) i = iU s.o i:=by
  intro i
  split
  ·unfold iU
   by_cases h1:i / 8 < s.o.length
   ·rw [List.getD_eq_getElem?_getD,List.getD_eq_getElem?_getD,List.getElem?_append_left h1]
   ·have h3:s.o.getD (i / 8) 0 = 0:=by rw [List.getD_eq_getElem?_getD,List.getElem?_eq_none (by omega)];rfl
    have h2:(s.o ++ [0]).getD (i / 8) 0 = 0:=by
     rw [List.getD_eq_getElem?_getD,List.getElem?_append_right (by omega)]
     cases i / 8 - s.o.length with
     | zero=>rfl
     | succ n=>rfl
    rw [h2,h3]
  ·rfl
 have hlen:s.k / 8 < (if s.k % 8 = 0 then s.o ++ [0] else s.o).length:=by
  split
  ·simp;omega
  ·omega
 have hcl:iU (if s.k % 8 = 0 then s.o ++ [0] else s.o) s.k = 0:=by rw [h0];exact h.cl _ (Nat.le_refl _)
 rw [← h0 i]
 unfold pW
 simp only
 generalize (if s.k % 8 = 0 then s.o ++ [0] else s.o) = b at *
 unfold iU at *
 by_cases h8:i / 8 = s.k / 8
 ·rw [h8]
  have e1:(b.set (s.k / 8) (orB (b.getD (s.k / 8) 0) x (s.k % 8))).getD (s.k / 8) 0 = orB (b.getD (s.k / 8) 0) x (s.k % 8):=by
   rw [List.getD_eq_getElem?_getD,List.getElem?_set_self hlen];rfl
  rw [e1]
  generalize b.getD (s.k / 8) 0 = y at *
  have hx2:(x % 2).toNat < 2:=by omega
  have hkr:s.k % 8 < 8:=Nat.mod_lt _ (by omega)
  have hor:y.toNat ||| (x % 2).toNat * 2 ^ (s.k % 8) < 256:=Nat.or_lt_two_pow (n:=8) y.toNat_lt (acs hx2 hkr)
  have e2:(orB y x (s.k % 8)).toNat = y.toNat ||| (x % 2).toNat * 2 ^ (s.k % 8):=by
   unfold orB
   rw [UInt8.toNat_ofNat']
   exact Nat.mod_eq_of_lt hor
  rw [e2,ads hx2 (by omega)]
  by_cases hi:i = s.k
  ·rw [if_pos (by rw [hi]),if_pos hi];omega
  ·rw [if_neg (by omega),if_neg hi]
 ·have e1:(b.set (s.k / 8) (orB (b.getD (s.k / 8) 0) x (s.k % 8))).getD (i / 8) 0 = b.getD (i / 8) 0:=by
   rw [List.getD_eq_getElem?_getD,List.getElem?_set_ne (Ne.symm h8),← List.getD_eq_getElem?_getD]
  rw [e1,if_neg (fun h=>h8 (by rw [h]))]
theorem RD {s:Ws} {x:Int} (h:Gd s):Gd (pW s x)∧Ext s (pW s x):=by
 refine ⟨⟨D9 h.ok,fun i hi=>?_⟩,Nat.le_succ _,fun i hi=>?_⟩
 ·have hi':s.k + 1≤i:=hi
  rw [Ec h,if_neg (by omega)]
  exact h.cl i (by omega)
 ·rw [Ec h,if_neg (by omega)]
theorem iC {s:Ws} {x:Int} (h:Gd s):∀ n,Gd (dn s x n)∧Ext s (dn s x n)∧∀ i,i < n→iU (dn s x n).o (s.k + i) = x / 2 ^ i % 2
 | 0=>⟨h,Ext.refl s,fun i hi=>absurd hi (by omega)⟩
 | n + 1=>by
  obtain ⟨h1,h2,h3⟩:=iC (x:=x) h n
  obtain ⟨h4,h5⟩:=RD (x:=x / 2 ^ n) h1
  have hk:=(dR (x:=x) h.ok n).2
  refine ⟨h4,h2.trans h5,fun i hi=>?_⟩
  show iU (pW _ _).o _ = _
  rw [Ec h1]
  by_cases hin:i = n
  ·subst hin
   rw [if_pos hk.symm]
  ·rw [if_neg (by omega)]
   exact h3 i (by omega)
theorem Gl {x:Int}:∀ (n:Nat) {s:Ws},Gd s→Gd (sD s x n)∧Ext s (sD s x n)∧∀ i,i < n→iU (sD s x n).o (s.k + i) = x / 2 ^ (n - 1 - i) % 2
 | 0,s,h=>⟨h,Ext.refl s,fun i hi=>absurd hi (by omega)⟩
 | n + 1,s,h=>by
  obtain ⟨h4,h5⟩:=RD (x:=x / 2 ^ n) h
  obtain ⟨h1,h2,h3⟩:=Gl (x:=x) n h4
  have hk:(pW s (x / 2 ^ n)).k = s.k + 1:=rfl
  refine ⟨h1,h5.trans h2,fun i hi=>?_⟩
  show iU (sD (pW s (x / 2 ^ n)) x n).o _ = _
  cases i with
  | zero =>
   rw [h2.at' _ (by rw [hk];omega),Nat.add_zero,Ec h,if_pos rfl]
   rfl
  | succ i =>
   have:=h3 i (by omega)
   rw [hk] at this
   rw [show s.k + (i + 1) = s.k + 1 + i by omega,this,show n + 1 - 1 - (i + 1) = n - 1 - i by omega]
structure Agr (b:List UInt8) (s:Ws):Prop where
 le:s.k≤8 * b.length
 at':∀ i,i < s.k→iU b i = iU s.o i
theorem Agr.ext {b:List UInt8} {s s':Ws} (h:Ext s s') (h2:Agr b s'):Agr b s:=⟨Nat.le_trans h.le h2.le,fun i hi=>by rw [h2.at' i (Nat.lt_of_lt_of_le hi h.le),h.at' i hi]⟩
theorem YM (x:Int) (n:Nat):x % 2 ^ (n + 1) = x % 2 ^ n + 2 ^ n * (x / 2 ^ n % 2):=by
 have hp:(0:Int) < 2 ^ n:=Int.pow_pos (by omega)
 rw [Int.pow_succ]
 generalize (2:Int) ^ n = p at *
 have h1:=Int.emod_add_mul_ediv x p
 have h2:=Int.emod_add_mul_ediv (x / p) 2
 have h3:=Int.emod_nonneg x (show p ≠ 0 by omega)
 have h4:=Int.emod_lt_of_pos x hp
 generalize x % p = r at *
 generalize hq:x / p = q at *
 have h5:q % 2 = 0∨q % 2 = 1:=by omega
 have e:x = (r + p * (q % 2)) + (p * 2) * (q / 2):=by
  rw [← h1]
  conv=>lhs;rw [← h2]
  rw [Int.mul_add,Int.mul_assoc]
  omega
 rw [e,Int.add_mul_emod_self_left]
 rcases h5 with h5 | h5 <;> rw [h5]
 ·exact Int.emod_eq_of_lt (by omega) (by omega)
 ·exact Int.emod_eq_of_lt (by omega) (by omega)
theorem F9 {b:List UInt8} {k:Nat} {o:List UInt8} {x:Int}:∀ n,k + n≤8 * b.length→(∀ i,i < n→iU b (k + i) = x / 2 ^ i % 2)→fO b n k o = .ok (x % 2 ^ n) (k + n) o
 | 0,_,_=>by
  show Res.ok 0 k o = _
  rw [Int.pow_zero,Int.emod_one]
  rfl
 | n + 1,hl,h=>by
  have ih:=F9 (x:=x) (o:=o) n (by omega) fun i hi=>h i (by omega)
  unfold fO
  rw [dQ ih]
  have hb:wz b (k + n) o = .ok (x / 2 ^ n % 2) (k + n + 1) o:=by
   unfold wz
   rw [if_pos (by omega),h n (by omega)]
  rw [dQ hb,YM]
  rfl
theorem uy {b:List UInt8} {s:Ws} {o:List UInt8} {x:Int} {n:Nat} (h:Gd s) (ha:Agr b (dn s x n)):fO b n s.k o = .ok (x % 2 ^ n) (dn s x n).k o:=by
 have hk:=(dR (x:=x) h.ok n).2
 have hle:=ha.le
 rw [hk] at hle ⊢
 refine F9 n hle fun i hi=>?_
 rw [ha.at' _ (by omega)]
 exact (iC h n).2.2 i hi
theorem WM {b:List UInt8} {l codes:List Int} {c:Int} {L y:Nat} {o:List UInt8} (hc:0≤c) (hno:∀ i,1≤i→i < L→jF (i:Nat) (c / 2 ^ (L - i)) l codes 0 = none) (hyes:jF (L:Nat) c l codes 0 = some y) (k0:Nat) (hle:k0 + L≤8 * b.length) (hb:∀ i,i < L→iU b (k0 + i) = c / 2 ^ (L - 1 - i) % 2) :
  ∀ (r i f:Nat),r + i = L + 1→1≤i→1≤r→r≤f→decP b l codes f i (c / 2 ^ r) (k0 + i - 1) o = .ok y (k0 + L) o
 | 0,i,f,_,_,h,_=>absurd h (by omega)
 | r + 1,i,f,hi,h1,_,hf=>by
  obtain ⟨f,rfl⟩:∃ g,f = g + 1:=⟨f - 1,by omega⟩
  have hbit:wz b (k0 + i - 1) o = .ok (c / 2 ^ r % 2) (k0 + i) o:=by
   unfold wz
   have:=hb (i - 1) (by omega)
   rw [show k0 + (i - 1) = k0 + i - 1 by omega,show L - 1 - (i - 1) = r by omega] at this
   rw [if_pos (by omega),this,show k0 + i - 1 + 1 = k0 + i by omega]
  have hx:2 * (c / 2 ^ (r + 1)) + c / 2 ^ r % 2 = c / 2 ^ r:=by
   rw [Int.pow_succ,← Int.ediv_ediv_of_nonneg (Int.le_of_lt (Int.pow_pos (by omega)))]
   omega
  unfold decP
  rw [dQ hbit,hx]
  by_cases hr:r = 0
  ·subst hr
   have:i = L:=by omega
   subst this
   rw [Int.pow_zero,Int.ediv_one,hyes]
   rfl
  ·have:=hno i h1 (by omega)
   rw [show L - i = r by omega] at this
   rw [this]
   have ih:=WM hc hno hyes k0 hle hb (o:=o) r (i + 1) f (by omega) (by omega) (by omega) (by omega)
   rw [show k0 + (i + 1) - 1 = k0 + i by omega] at ih
   exact ih
def Gm (l codes:List Int) (y:Nat):Prop:=1≤(l.getD y 0).toNat∧(l.getD y 0).toNat≤(mxL 0 l).toNat∧0≤codes.getD y 0∧codes.getD y 0 < 2 ^ (l.getD y 0).toNat ∧
 (∀ i,1≤i→i < (l.getD y 0).toNat→jF (i:Nat) (codes.getD y 0 / 2 ^ ((l.getD y 0).toNat - i)) l codes 0 = none)∧jF ((l.getD y 0).toNat:Nat) (codes.getD y 0) l codes 0 = some y
theorem WO {b:List UInt8} {l:List Int} {s:Ws} {y:Nat} {o:List UInt8} (h:Gd s) (hl:(bC l).2 = 0) (hc:Gm l (iq l) y) (ha:Agr b (jL s (iq l) l y)):uK b l s.k o = .ok y (jL s (iq l) l y).k o:=by
 obtain ⟨c1,c2,c3,c3',c4,c5⟩:=hc
 unfold jL at ha ⊢
 have hk:=(FZ (x:=(iq l).getD y 0) (l.getD y 0).toNat h.ok).2
 obtain ⟨_,_,hb⟩:=Gl (x:=(iq l).getD y 0) (l.getD y 0).toNat h
 have hle:=ha.le
 rw [hk] at hle ⊢
 unfold uK
 rw [if_pos hl]
 have:=WM (o:=o) c3 c4 c5 s.k hle (fun i hi=>by rw [ha.at' _ (by omega)];exact hb i hi) (l.getD y 0).toNat 1 (mxL 0 l).toNat (by omega) (by omega) c1 c2
 rw [show (iq l).getD y 0 / 2 ^ (l.getD y 0).toNat = 0 from Int.ediv_eq_zero_of_lt c3 c3'] at this
 exact this
end Go.Proofs.Ytcllinmgllmpmaa
namespace Go.Proofs.Ytcllinmgllmpmaa
open Go.AM
def lcX:List Int:=((List.range 144).map fun i=>Int.ofNat (48 + i)) ++ ((List.range 112).map fun i=>Int.ofNat (400 + i)) ++ ((List.range 24).map fun i=>Int.ofNat i) ++ ((List.range 8).map fun i=>Int.ofNat (192 + i))
def dcX:List Int:=(List.range 32).map fun i=>Int.ofNat i
theorem adt:lcL = lcX:=by decide +kernel
theorem WQ:iq flL = lcX:=by decide +kernel
theorem adu:dcL = dcX:=by decide +kernel
theorem WR:iq flD = dcX:=by decide +kernel
theorem Ko:(bC flL).2 = 0∧(bC flD).2 = 0∧(mxL 0 flL).toNat = 9∧(mxL 0 flD).toNat = 5:=by decide +kernel
theorem zx {i code:Int}:∀ (l cs:List Int) (j:Nat),(∀ p ∈ l.zip cs,¬ (p.1 = i∧p.2 = code))→jF i code l cs j = none
 | [],_,_,_=>by unfold jF;rfl
 | x :: r,[],_,_=>by unfold jF;rfl
 | x :: r,y :: cs,j,h=>by
  unfold jF
  rw [if_neg (h (x,y) (List.mem_cons_self ..))]
  exact zx r cs _ fun p hp=>h p (List.mem_cons_of_mem _ hp)
theorem NZ:∀ p ∈ flL.zip lcX,(p.1 = 8∧48≤p.2∧p.2≤199)∨(p.1 = 9∧400≤p.2∧p.2≤511)∨(p.1 = 7∧0≤p.2∧p.2≤23):=by decide +kernel
theorem N7:∀ p ∈ flD.zip dcX,p.1 = 5∧0≤p.2∧p.2≤31:=by decide +kernel
theorem YN:∀ y,y < 288→(flL.getD y 0,lcX.getD y 0) ∈ flL.zip lcX∧jF (flL.getD y 0).toNat (lcX.getD y 0) flL lcX 0 = some y:=by decide +kernel
theorem YO:∀ y,y < 32→(flD.getD y 0,dcX.getD y 0) ∈ flD.zip dcX∧jF (flD.getD y 0).toNat (dcX.getD y 0) flD dcX 0 = some y:=by decide +kernel
theorem adv {y:Nat} (h:y < 288):Gm flL (iq flL) y:=by
 obtain ⟨h1,h2⟩:=YN y h
 have hc:=NZ _ h1
 unfold Gm
 rw [WQ,Ko.2.2.1]
 simp only at hc
 generalize flL.getD y 0 = L at *
 generalize lcX.getD y 0 = c at *
 have none:∀ i:Nat,i < L.toNat→(i = 7→c / 2 ^ (L.toNat - i) ≥ 24)→(i = 8→c / 2 ^ (L.toNat - i) ≥ 200)→L≤9→jF (i:Nat) (c / 2 ^ (L.toNat - i)) flL lcX 0 = none:=by
  intro i hi h7 h8 h9
  refine zx _ _ _ fun p hp ⟨e1,e2⟩=>?_
  have:=NZ p hp
  rw [e1,e2] at this
  rcases this with ⟨g1,g2,g3⟩ | ⟨g1,g2,g3⟩ | ⟨g1,g2,g3⟩
  ·have:=h8 (by omega);omega
  ·omega
  ·have:=h7 (by omega);omega
 rcases hc with ⟨rfl,g2,g3⟩ | ⟨rfl,g2,g3⟩ | ⟨rfl,g2,g3⟩
 ·refine ⟨by decide,by decide,by omega,?_,fun i h1 hi=>none i hi ?_ ?_ (by omega),h2⟩
  ·show c < 256;omega
  ·rintro rfl
   show c / 2 ≥ 24
   omega
  ·rintro rfl
   exact absurd hi (by decide)
 ·refine ⟨by decide,by decide,by omega,?_,fun i h1 hi=>none i hi ?_ ?_ (by omega),h2⟩
  ·show c < 512;omega
  ·rintro rfl
   show c / 4 ≥ 24
   omega
  ·rintro rfl
   show c / 2 ≥ 200
   omega
 ·refine ⟨by decide,by decide,by omega,?_,fun i h1 hi=>none i hi ?_ ?_ (by omega),h2⟩
  ·show c < 128;omega
  ·rintro rfl
   exact absurd hi (by decide)
  ·rintro rfl
   exact absurd hi (by decide)
theorem adw {y:Nat} (h:y < 32):Gm flD (iq flD) y:=by
 obtain ⟨h1,h2⟩:=YO y h
 have hc:=N7 _ h1
 unfold Gm
 rw [WR,Ko.2.2.2]
 simp only at hc
 generalize flD.getD y 0 = L at *
 generalize dcX.getD y 0 = c at *
 obtain ⟨rfl,g2,g3⟩:=hc
 refine ⟨by decide,by decide,by omega,?_,fun i h1 hi=>?_,h2⟩
 ·show c < 32;omega
 ·refine zx _ _ _ fun p hp ⟨e1,e2⟩=>?_
  have:=(N7 p hp).1
  have:i < 5:=hi
  omega
theorem sF {s:Ws} {cs ls:List Int} {y:Nat} (h:Gd s):Gd (jL s cs ls y)∧Ext s (jL s cs ls y):=by
 obtain ⟨h1,h2,_⟩:=Gl (x:=cs.getD y 0) (ls.getD y 0).toNat h
 exact ⟨h1,h2⟩
theorem Kq {b:List UInt8} {s:Ws} {y:Nat} {o:List UInt8} (h:Gd s) (hy:y < 288) (ha:Agr b (jL s lcL flL y)):uK b Aa s.k o = .ok y (jL s lcL flL y).k o:=by
 have e:lcL = iq flL:=by rw [adt,WQ]
 rw [e] at ha ⊢
 exact WO h Ko.1 (adv hy) ha
theorem YP {b:List UInt8} {s:Ws} {y:Nat} {o:List UInt8} (h:Gd s) (hy:y < 32) (ha:Agr b (jL s dcL flD y)):uK b yR s.k o = .ok y (jL s dcL flD y).k o:=by
 have e:dcL = iq flD:=by rw [adu,WR]
 rw [e] at ha ⊢
 exact WO h Ko.2.1 (adw hy) ha
theorem WU {s:Ws} {x:Px} (h:Gd s):Gd (pxW s x)∧Ext s (pxW s x):=by
 unfold pxW
 split
 ·exact sF h
 ·obtain ⟨a1,b1⟩:=sF (cs:=lcL) (ls:=flL) (y:=(lenOf x.len.toNat).1) h
  obtain ⟨a2,b2,_⟩:=iC (x:=x.len - ((lenOf x.len.toNat).2.1:Nat)) a1 (lenOf x.len.toNat).2.2
  obtain ⟨a3,b3⟩:=sF (cs:=dcL) (ls:=flD) (y:=(eH x.dist.toNat).1) a2
  obtain ⟨a4,b4,_⟩:=iC (x:=x.dist - ((eH x.dist.toNat).2.1:Nat)) a3 (eH x.dist.toNat).2.2
  exact ⟨a4,b1.trans (b2.trans (b3.trans b4))⟩
theorem J8:∀ (l:List Px) {s:Ws},Gd s→Gd (l.foldl pxW s)∧Ext s (l.foldl pxW s)
 | [],s,h=>⟨h,Ext.refl s⟩
 | x :: l,s,h=>by
  obtain ⟨a1,b1⟩:=WU (x:=x) h
  obtain ⟨a2,b2⟩:=J8 l a1
  exact ⟨a2,b1.trans b2⟩
theorem YQ:∀ n,n < 259→3≤n→BK (lenOf n).1 = ((lenOf n).2.1:Nat)∧DF (lenOf n).1 = (lenOf n).2.2:=by decide +kernel
theorem Kt {per n:Nat}:∀ (f s base bits j:Nat),bits≤(gF per n f s base bits j).2.2
 | 0,_,_,_,_=>Nat.le_refl _
 | f + 1,s,base,bits,j=>by
  unfold gF
  split
  ·exact Nat.le_trans (Nat.le_succ _) (Kt f _ _ _ _)
  ·split
   ·exact Nat.le_refl _
   ·exact Kt f _ _ _ _
theorem YR {n:Nat} (h1:1≤n) (h:n≤32768):tN (eH n).1 = (eH n).2.1∧lW (eH n).1 = (eH n).2.2:=by
 unfold eH tN lW
 by_cases h4:n≤4
 ·rw [if_pos h4]
  simp only
  rw [if_pos (by omega),if_pos (by omega)]
  omega
 ·rw [if_neg h4]
  have hb:=Kt (per:=2) (n:=n) 40 4 5 1 0
  obtain ⟨b,j,hj,he⟩:=AQ (n:=n) (f:=40) (bits:=1) (j:=0) (by omega) (JX h)
  have he':gF 2 n 40 4 5 1 0 = (2 * b + 2 + j,(2 + j) * 2 ^ b + 1,b):=he
  rw [he'] at hb ⊢
  simp only at hb ⊢
  rw [if_neg (by omega),if_neg (by omega)]
  have e1:(2 * b + 2 + j) / 2 - 1 = b:=by omega
  have e2:(2 * b + 2 + j) % 2 = j:=by omega
  rw [e1,e2]
  omega
theorem RF {mo:Int} {d:Nat}:∀ (n k:Nat) (o:List UInt8),((kQ d n o).length:Int)≤mo→rF (yP mo d) n k o = .ok () k (kQ d n o)
 | 0,_,_,_=>rfl
 | n + 1,k,o,h=>by
  have hl:=xR d (n + 1) o
  have h1:yP mo d k o = .ok () k (o ++ [o.getD (o.length - d) 0]):=by
   unfold yP qj
   rw [if_pos (by omega)]
  unfold rF
  rw [dQ h1]
  exact RF n k _ h
theorem AY:∀ (l:List Px) (o out:List UInt8),jX l o = (out,0)→o.length≤out.length
 | [],o,out,h=>by
  unfold jX at h
  simp only [Prod.mk.injEq] at h
  rw [h.1]
  exact Nat.le_refl _
 | x :: r,o,out,h=>by
  unfold jX at h
  split at h
  ·cases h
  ·split at h
   ·have:=AY r _ _ h
    simp at this
    omega
   ·split at h
    ·cases h
    ·have:=AY r _ _ h
     rw [xR] at this
     omega
theorem Uo {x:Px} (h:ny x = true) (h0:¬ x.len = 0):3≤x.len∧x.len≤258∧1≤x.dist∧x.dist≤32768:=by
 unfold ny at h
 rw [if_neg h0] at h
 simp only [Bool.and_eq_true,decide_eq_true_eq] at h
 exact ⟨h.1,h.2.1,h.2.2.1,h.2.2.2.1⟩
theorem P7 {b:List UInt8} {mo:Int}:∀ (l:List Px) (s:Ws) (o out:List UInt8) (f:Nat),Gd s→jX l o = (out,0)→Agr b (jL (l.foldl pxW s) lcL flL 256)→l.length < f→(out.length:Int)≤mo →
  rG b mo Aa yR f s.k o = .ok () (jL (l.foldl pxW s) lcL flL 256).k out
 | [],s,o,out,f,hs,he,ha,hf,hm=>by
  obtain ⟨f,rfl⟩:∃ g,f = g + 1:=⟨f - 1,by simp at hf;omega⟩
  unfold jX at he
  simp only [Prod.mk.injEq] at he
  obtain ⟨rfl,_⟩:=he
  have h1:=Kq (o:=o) hs (by omega) ha
  unfold rG
  rw [dQ h1]
  rfl
 | x :: r,s,o,out,f,hs,he,ha,hf,hm=>by
  obtain ⟨f,rfl⟩:∃ g,f = g + 1:=⟨f - 1,by simp at hf;omega⟩
  have hf':r.length < f:=by simp at hf;omega
  have hmay:ny x = true:=by
   unfold jX at he
   split at he
   ·cases he
   ·rename_i h;simpa using h
  unfold jX at he
  rw [if_neg (by simp [hmay])] at he
  obtain ⟨g1,g2⟩:=WU (x:=x) hs
  obtain ⟨g3,g4⟩:=J8 r g1
  have ha':Agr b (jL (r.foldl pxW (pxW s x)) lcL flL 256):=ha
  have hax:=Agr.ext (g4.trans (sF g3).2) ha'
  show rG b mo Aa yR (f + 1) s.k o = .ok () (jL (r.foldl pxW (pxW s x)) lcL flL 256).k out
  unfold rG
  by_cases h0:x.len = 0
  ·rw [if_pos h0] at he
   have ih:=P7 r (pxW s x) _ _ f g1 he ha' hf' hm
   have hlen:=AY _ _ _ he
   have hx:pxW s x = jL s lcL flL x.byte.toNat:=by unfold pxW;rw [if_pos h0]
   rw [hx] at hax ih ⊢
   have hb:=x.byte.toNat_lt
   have hb2:x.byte.toNat < 256:=hb
   rw [dQ (Kq (o:=o) hs (by omega) hax)]
   rw [if_neg (by omega),if_pos hb2]
   have ht:qj mo (UInt8.ofNat x.byte.toNat) (jL s lcL flL x.byte.toNat).k o = .ok () (jL s lcL flL x.byte.toNat).k (o ++ [x.byte]):=by
    unfold qj
    simp at hlen
    rw [if_pos (by omega)]
    simp
   rw [dQ ht]
   exact ih
  ·rw [if_neg h0] at he
   obtain ⟨m1,m2,m3,m4⟩:=Uo hmay h0
   have hd:¬ (o.length:Int) < x.dist:=by
    intro h
    rw [if_pos h] at he
    cases he
   rw [if_neg hd] at he
   have ih:=P7 r (pxW s x) _ _ f g1 he ha' hf' hm
   have hlen:=AY _ _ _ he
   have hx:pxW s x = dn (jL (dn (jL s lcL flL (lenOf x.len.toNat).1) (x.len - ((lenOf x.len.toNat).2.1:Nat)) (lenOf x.len.toNat).2.2) dcL flD (eH x.dist.toNat).1) (x.dist - ((eH x.dist.toNat).2.1:Nat)) (eH x.dist.toNat).2.2:=by unfold pxW;rw [if_neg h0]
   rw [hx] at hax ih ⊢
   obtain ⟨n1,n2,n3,n4,n5⟩:=wY x.len.toNat (by omega) (by omega)
   obtain ⟨t1,t2⟩:=YQ x.len.toNat (by omega) (by omega)
   obtain ⟨d1,d2,d3,d4⟩:=wZ (n:=x.dist.toNat) (by omega) (by omega)
   obtain ⟨u1,u2⟩:=YR (n:=x.dist.toNat) (by omega) (by omega)
   generalize lenOf x.len.toNat = LO at *
   obtain ⟨ls,lb,lx⟩:=LO
   generalize eH x.dist.toNat = DO at *
   obtain ⟨ds,db,dx⟩:=DO
   simp only at n1 n2 n3 n4 n5 t1 t2 d1 d2 d3 d4 u1 u2 hax ih ⊢
   obtain ⟨a1,b1⟩:=sF (cs:=lcL) (ls:=flL) (y:=ls) hs
   obtain ⟨a2,b2,_⟩:=iC (x:=x.len - (lb:Nat)) a1 lx
   obtain ⟨a3,b3⟩:=sF (cs:=dcL) (ls:=flD) (y:=ds) a2
   obtain ⟨a4,b4,_⟩:=iC (x:=x.dist - (db:Nat)) a3 dx
   have x3:=Agr.ext b4 hax
   have x2:=Agr.ext b3 x3
   have x1:=Agr.ext b2 x2
   rw [dQ (Kq (o:=o) hs (by omega) x1),if_neg (by omega),if_neg (by omega)]
   have r1:=uy (o:=o) a1 x2
   have r2:=YP (o:=o) a2 (by omega) x3
   have r3:=uy (o:=o) a3 hax
   generalize dn (jL (dn (jL s lcL flL ls) (x.len - (lb:Nat)) lx) dcL flD ds) (x.dist - (db:Nat)) dx = s4 at *
   generalize jL (dn (jL s lcL flL ls) (x.len - (lb:Nat)) lx) dcL flD ds = s3 at *
   generalize dn (jL s lcL flL ls) (x.len - (lb:Nat)) lx = s2 at *
   generalize jL s lcL flL ls = s1 at *
   have q1:(x.len - (lb:Nat)) % 2 ^ lx = x.len - (lb:Nat):=by
    have:(((2:Nat) ^ lx:Nat):Int) = 2 ^ lx:=by push_cast;rfl
    rw [← this]
    exact Int.emod_eq_of_lt (by omega) (by omega)
   have q2:(x.dist - (db:Nat)) % 2 ^ dx = x.dist - (db:Nat):=by
    have:(((2:Nat) ^ dx:Nat):Int) = 2 ^ dx:=by push_cast;rfl
    rw [← this]
    exact Int.emod_eq_of_lt (by omega) (by omega)
   rw [q1] at r1
   rw [q2] at r3
   have akT:DI b mo yR ls s1.k o = .ok () s4.k (kQ x.dist.toNat x.len.toNat o):=by
    unfold DI
    rw [if_neg (by omega),t2,dQ r1,dQ r2,if_neg (by omega),u2,dQ r3,t1,u1]
    rw [show db + (x.dist - (db:Nat)).toNat = x.dist.toNat by omega,show ((lb:Nat) + (x.len - (lb:Nat)):Int).toNat = x.len.toNat by omega]
    unfold OC
    rw [if_neg (by omega)]
    exact RF _ _ _ (by omega)
   rw [dQ akT]
   exact ih
theorem Gd.nil:Gd ⟨0,[]⟩:=⟨rfl,fun i _=>by unfold iU;simp⟩
theorem YB {F:Nat} {b out:List UInt8} {mo:Int} {l:List Px} (he:jX l [] = (out,0)) (ha:Agr b (GL l)) (hm:(out.length:Int)≤mo) (hF:l.length < F):∃ L,qp b mo F F 0 [] = .ok L (GL l).k out:=by
 obtain ⟨F,rfl⟩:∃ g,F = g + 1:=⟨F - 1,by omega⟩
 unfold GL at ha ⊢
 obtain ⟨a1,b1,_⟩:=iC (x:=1) Gd.nil 1
 obtain ⟨a2,b2,_⟩:=iC (x:=1) a1 2
 obtain ⟨a3,b3⟩:=J8 l a2
 have x3:=Agr.ext (sF a3).2 ha
 have x2:=Agr.ext b3 x3
 have x1:=Agr.ext b2 x2
 have r1:=uy (o:=[]) Gd.nil x1
 have r2:=uy (o:=[]) a1 x2
 have r3:=P7 (mo:=mo) l _ [] out (F + 1) a2 he ha hF hm
 have hbl:F5 b mo (F + 1) 0 [] = .ok ⟨1,true,0,out.length⟩ (jL (l.foldl pxW (dn (dn ⟨0,[]⟩ 1 1) 1 2)) lcL flL 256).k out:=by
  unfold F5
  rw [dQ r1,dQ r2]
  have hk:CQ b mo (F + 1) (1 % 2 ^ 2) = rG b mo Aa yR (F + 1):=by unfold CQ;rw [if_neg (by decide),if_pos (by decide)]
  rw [hk,dQ r3]
  rfl
 refine ⟨[⟨1,true,0,out.length⟩],?_⟩
 unfold qp
 rw [dQ hbl,if_pos rfl]
 rfl
theorem YC {F:Nat} {b out:List UInt8} {mo:Int} {k:Nat} (h:∃ L,qp b mo F F 0 [] = .ok L k out) (hm:(out.length:Int)≤mo):vM F b mo = (out,(((k + 7) / 8:Nat):Int),0):=by
 obtain ⟨L,h⟩:=h
 unfold vM
 rw [if_neg (by omega),h]
end Go.Proofs.Ytcllinmgllmpmaa
