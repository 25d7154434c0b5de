/- EE to EH: texts of this claim, one behind the other; what each shows stands at its head. -/
import Derived.Test.YtbodincpjijdiaaMg3
set_option linter.unusedSimpArgs false
set_option linter.unusedVariables false
set_option maxRecDepth 100000
set_option maxHeartbeats 8000000
namespace Go.Proofs.Ytbodincpjijdiaa
open Go.AM
theorem BM {x:Px} (h:jy x = true) (h0:¬ x.len = 0):x.dist≤32768:=by
 unfold jy at h
 rw [if_neg h0] at h
 simp at h
 omega
theorem FW {s:Ws} {x:Px} (h:gQ s) (hm:jy x = true):gQ (pxW s x)∧(pxW s x).k≤s.k + 40:=by
 unfold pxW
 by_cases h0:x.len = 0
 ·rw [if_pos h0]
  obtain ⟨h1,h2⟩:=iq (cs:=lcL) (ls:=flL) (y:=x.byte.toNat) h
  have:=qA x.byte.toNat (by have:=x.byte.toNat_lt;omega)
  exact ⟨h1,by omega⟩
 ·rw [if_neg h0]
  obtain ⟨n,d,hn,hd,n3,n258,d1⟩:=yw hm h0
  have hd2:=BM hm h0
  rw [hn,hd] at *
  simp only [Int.toNat_natCast] at *
  obtain ⟨a1,a2,a3,a4,a5⟩:=nU n (by omega) n3
  obtain ⟨b1,b2,b3,b4⟩:=jL d1 (by omega)
  obtain ⟨h1,h2⟩:=iq (cs:=lcL) (ls:=flL) (y:=(lenOf n).1) h
  obtain ⟨h3,h4⟩:=bV (x:=(n:Int) - ((lenOf n).2.1:Nat)) h1 (lenOf n).2.2
  obtain ⟨h5,h6⟩:=iq (cs:=dcL) (ls:=flD) (y:=(bG d).1) h3
  obtain ⟨h7,h8⟩:=bV (x:=(d:Int) - ((bG d).2.1:Nat)) h5 (bG d).2.2
  have:=qA (lenOf n).1 (by omega)
  have:=BN (bG d).1 (by omega)
  exact ⟨h7,by omega⟩
section
variable {E:AM.Heap} {o6 o7 o8 o10 o12:Nat} {oa:Option Nat} {s:Ws}
theorem TF {m i c:Nat} {x:Px} {l:List Px} (h:FxV E o6 o7 o8 o10 o12 oa s) (hl:s.k≤6000000) (hx:l[i]? = some x) (hll:l.length≤100000) (hm:jy x = true):∃ E' oa',FxV E' o6 o7 o8 o10 o12 oa' (pxW s x)∧∃ code,((Try.f42.body).bind (aF [1,1,1,1,1,1,1,1,0,1,0,0,1,1])) = some code∧Run X (evT X) 42 m code (mQ o6 o7 o8 o10 o12 c l i ++ [(49,.bool true)]) E ⟨.normal,mQ o6 o7 o8 o10 o12 c l (i + 1),E'⟩:=by
 have hx':(l.map pxR)[i]? = some (pxR x):=by rw [List.getElem?_map,hx];rfl
 have hi:=eY hx
 have hiI:(i:Int) < (l.length:Int):=by omega
 have hlm:(l.map pxR).length = l.length:=by simp
 have FX:∃ code,((Try.f42.body).bind (aF [1,1,1,1,1,1,1,1,0,1,0,0,1,1,0,0,0])) = some code∧Run X (evT X) 42 m code (mQ o6 o7 o8 o10 o12 c l i ++ [(49,.bool true)]) E ⟨.normal,wF o6 o7 o8 o10 o12 E.length c l i,E ++ [some (pxO x)]⟩:=by
  refine ⟨_,rfl,?_⟩
  simp only [mQ,wF,pxO,pxR] at hx' ⊢
  generalize l.map pxR = R at *
  generalize l.length = N at *
  (refine ⟨0,?_⟩;simp (maxSteps:=2000000) -implicitDefEqProofs [-getElem?_pos,go_sem,eqV,ah,hx',hi,hiI,hlm,TG,kE,retag,FY,Bl,splice,jC,scalars,scalar])
 have hF0:=h.cat [some (pxO x)]
 have hq0:(E ++ [some (pxO x)])[E.length]? = some (some (pxO x)):=by simp
 have hlt:=h.wr.lt
 generalize E ++ [some (pxO x)] = E0 at *
 have hqn:E.length ≠ o12∧∀ a,oa = some a→E.length ≠ a:=⟨by omega,fun a ha=>by have:=hlt.2 a ha;omega⟩
 generalize E.length = q at *
 have FZ:∃ code,((Try.f42.body).bind (aF [1,1,1,1,1,1,1,1,0,1,0,0,1,1,0,0,1,0,0])) = some code∧Run X (evT X) 42 m code (wF o6 o7 o8 o10 o12 q c l i) E0 ⟨.normal,wF o6 o7 o8 o10 o12 q c l i ++ [(54,.bool (decide (x.len = 0)))],E0⟩:=by
  refine ⟨_,rfl,?_⟩
  simp only [wF,pxO,pxR] at hq0 ⊢
  generalize l.map pxR = R at *
  generalize l.length = N at *
  by_cases h0:x.len = 0
  ·rw [decide_eq_true h0]
   rw [h0] at hq0
   (refine ⟨0,?_⟩;simp (maxSteps:=2000000) -implicitDefEqProofs [-getElem?_pos,go_sem,eqV,ah,hq0])
  ·have h0b:(x.len == 0) = false:=by simpa using h0
   rw [decide_eq_false h0]
   (refine ⟨0,?_⟩;simp (maxSteps:=2000000) -implicitDefEqProofs [-getElem?_pos,go_sem,eqV,ah,hq0,h0,h0b])
 have w1:IntKind.i64.wrap ((i:Int) + 1) = ((i + 1:Nat):Int):=by rw [wrap_i64 (by omega) (by omega)];omega
 have TI:∀ E',∃ code,((Try.f42.body).bind (aF [1,1,1,1,1,1,1,1,0,1,0,0,1,1,1])) = some code∧Run X (evT X) 42 m code (mQ o6 o7 o8 o10 o12 c l i) E' ⟨.normal,mQ o6 o7 o8 o10 o12 c l (i + 1),E'⟩:=by
  intro E'
  refine ⟨_,rfl,?_⟩
  simp only [mQ]
  generalize l.map pxR = R at *
  generalize l.length = N at *
  generalize i + 1 = i1 at *
  (refine ⟨0,?_⟩;simp (maxSteps:=2000000) -implicitDefEqProofs [-getElem?_pos,go_sem,eqV,ah,w1])
 unfold pxW
 by_cases h0:x.len = 0
 ·rw [if_pos h0]
  rw [decide_eq_true h0] at FZ
  obtain ⟨E1,oa1,g1,g2,g3⟩:=V4 (m:=m) (i:=i) (c:=c) (l:=l) (tl:=[(54,.bool true)]) hF0 (by omega) hq0
  refine ⟨E1,oa1,g1,_,rfl,?_⟩
  apply Run.seq (fr':=mQ o6 o7 o8 o10 o12 c l i) (H':=E1)
  ·refine Run.eF ?_
   apply Run.seq (piece FX _ rfl)
   refine Run.bH ?_ (by simp)
   apply Run.seq (piece FZ _ rfl)
   refine Run.cond (d:=true) (by simp [wF,aC,au]) ?_
   exact Run.seq (piece g3 _ rfl) ⟨0,rfl⟩
  ·exact piece (TI E1) _ rfl
 ·rw [if_neg h0]
  rw [decide_eq_false h0] at FZ
  obtain ⟨n,d,hn,hd,n3,n258,d1⟩:=yw hm h0
  have hd2:=BM hm h0
  have en:x.len.toNat = n:=by omega
  have ed:x.dist.toNat = d:=by omega
  rw [en,ed]
  obtain ⟨a1,a2,a3,a4,a5⟩:=nU n (by omega) n3
  obtain ⟨b1,b2,b3,b4⟩:=jL d1 (by omega)
  have f1:=qA (lenOf n).1 (by omega)
  have f2:=BN (bG d).1 (by omega)
  have afh:=V5 (m:=m) (E:=E0) (o6:=o6) (o7:=o7) (o8:=o8) (o10:=o10) (o12:=o12) (i:=i) (c:=c) (l:=l) (tl:=[(54,.bool false)]) hn n258 hq0
  obtain ⟨E1,oa1,g1,g2,g3⟩:=V6 (m:=m) (i:=i) (q:=q) (u:=(lenOf n).1) (v:=(lenOf n).2.1) (w:=(lenOf n).2.2) (c:=c) (l:=l) hF0 (by omega) (by omega)
  have k1:=(iq (cs:=lcL) (ls:=flL) (y:=(lenOf n).1) h.ok).2
  have kq:∀ {E2:AM.Heap} {oa2:Option Nat},Kpw E0 E2 o12 oa oa2→E2[q]? = some (some (pxO x)):=fun hk=>by rw [hk.rest q (eY hq0) hqn.1 hqn.2];exact hq0
  obtain ⟨E2,oa2,g4,g5,g6⟩:=V7 (m:=m) (i:=i) (q:=q) (v:=(lenOf n).2.1) (w:=(lenOf n).2.2) (c:=c) (l:=l) g1 (by omega) hn (by omega) a3 (by omega) (kq g2)
  have k2:=(bV (x:=x.len - ((lenOf n).2.1:Nat)) g1.ok (lenOf n).2.2).2
  have afi:=V8 (m:=m) (o6:=o6) (o7:=o7) (o8:=o8) (o10:=o10) (o12:=o12) (i:=i) (c:=c) (l:=l) hd d1 (by omega) (kq (g2.trans g5))
  obtain ⟨E3,oa3,g7,g8,g9⟩:=V9 (m:=m) (i:=i) (q:=q) (u:=(bG d).1) (v:=(bG d).2.1) (w:=(bG d).2.2) (c:=c) (l:=l) g4 (by omega) (by omega)
  have k3:=(iq (cs:=dcL) (ls:=flD) (y:=(bG d).1) g4.ok).2
  obtain ⟨E4,oa4,g10,g11,g12⟩:=Wh (m:=m) (i:=i) (q:=q) (v:=(bG d).2.1) (w:=(bG d).2.2) (c:=c) (l:=l) g7 (by omega) hd (by omega) b2 (by omega) (kq ((g2.trans g5).trans g8))
  refine ⟨E4,oa4,g10,_,rfl,?_⟩
  apply Run.seq (fr':=mQ o6 o7 o8 o10 o12 c l i) (H':=E4)
  ·refine Run.block ?_ (by simp)
   apply Run.seq (piece FX _ rfl)
   apply Run.seq (fr':=wF o6 o7 o8 o10 o12 q c l i ++ [(54,.bool false)]) (H':=E0)
   ·apply Run.seq (piece FZ _ rfl)
    exact Run.cond (d:=false) (by simp [wF,aC,au]) ⟨0,rfl⟩
   apply Run.seq (piece afh _ rfl)
   apply Run.seq (piece g3 _ rfl)
   apply Run.seq (piece g6 _ rfl)
   apply Run.seq (piece afi _ rfl)
   apply Run.seq (piece g9 _ rfl)
   exact piece g12 _ rfl
  ·exact piece (TI E4) _ rfl
end
end Go.Proofs.Ytbodincpjijdiaa
namespace Go.Proofs.Ytbodincpjijdiaa
open Go.AM
theorem Bo:∀ {l:List Px} {o:List UInt8},(iy l o).2 = 0→∀ x ∈ l,jy x = true
 | [],_,_,x,hx=>by cases hx
 | y :: l,o,h,x,hx=>by
  unfold iy at h
  split at h
  ·cases h
  ·rename_i hm
   have hm:jy y = true:=by simpa using hm
   rcases List.mem_cons.1 hx with rfl | hx
   ·exact hm
   ·split at h
    ·exact Bo h x hx
    ·split at h
     ·cases h
     ·exact Bo h x hx
theorem yx:∀ (l:List Px) (s:Ws),gQ s→(∀ x ∈ l,jy x = true)→gQ (l.foldl pxW s)∧(l.foldl pxW s).k≤s.k + 40 * l.length
 | [],s,h,_=>⟨h,by simp⟩
 | x :: l,s,h,hm=>by
  obtain ⟨h1,h2⟩:=FW h (hm x (List.mem_cons_self ..))
  obtain ⟨h3,h4⟩:=yx l (pxW s x) h1 fun y hy=>hm y (List.mem_cons_of_mem _ hy)
  exact ⟨h3,by simp only [List.foldl_cons,List.length_cons];omega⟩
section
variable {E:AM.Heap} {o6 o7 o8 o10 o12:Nat} {oa:Option Nat} {s:Ws}
theorem TJ {m c:Nat} {l:List Px} (h:FxV E o6 o7 o8 o10 o12 oa s) (hs:s.k≤100) (hll:l.length≤2000) (hm:∀ x ∈ l,jy x = true):∃ code,((Try.f42.body).bind (aF [1,1,1,1,1,1,1,1,0,1])) = some code∧aj (Goes fun fr E'=>∃ oa',fr = mQ o6 o7 o8 o10 o12 c l l.length ++ [(49,.bool false)]∧FxV E' o6 o7 o8 o10 o12 oa' (l.foldl pxW s)) X (evT X) 42 m code (mQ o6 o7 o8 o10 o12 c l 0) E:=by
 refine ⟨_,rfl,?_⟩
 apply aj.block
 refine aj.kJ (I:=fun k fr E'=>∃ i oa' s',i≤l.length∧k = l.length - i∧fr = mQ o6 o7 o8 o10 o12 c l i∧FxV E' o6 o7 o8 o10 o12 oa' s'∧s'.k≤100 + 40 * i∧(l.drop i).foldl pxW s' = l.foldl pxW s) ?_ (k:=l.length) ⟨0,oa,s,by omega,rfl,rfl,h,by omega,rfl⟩
 rintro k fr E' ⟨i,oa',s',hi,rfl,rfl,hF,hk,hf⟩
 by_cases hin:i = l.length
 ·rw [List.drop_of_length_le (by omega),List.foldl_nil] at hf
  refine aj.of (o:=⟨.exit 0,mQ o6 o7 o8 o10 o12 c l i ++ [(49,.bool false)],E'⟩) ?_ (.inr ⟨by simp,rfl,oa',by rw [hin],by rw [← hf];exact hF⟩)
  subst hin
  refine ⟨0,?_⟩
  simp only [mQ]
  generalize l.map pxR = R at *
  generalize l.length = N at *
  simp (maxSteps:=2000000) -implicitDefEqProofs [-getElem?_pos,go_sem,eqV,ah]
 ·have hlt:i < l.length:=by omega
  have iT:(i:Int) < (l.length:Int):=by omega
  obtain ⟨x,hx⟩:∃ x,l[i]? = some x:=⟨_,List.getElem?_eq_getElem hlt⟩
  have hmx:=hm x (List.mem_of_getElem? hx)
  have hdrop:l.drop i = x :: l.drop (i + 1):=by
   rw [List.drop_eq_getElem_cons hlt]
   rw [List.getElem?_eq_getElem hlt] at hx
   rw [Option.some.inj hx]
  rw [hdrop,List.foldl_cons] at hf
  obtain ⟨E2,oa2,g1,g2⟩:=TF (m:=m) (c:=c) hF (by omega) hx (by omega) hmx
  have hk2:=(FW hF.ok hmx).2
  refine aj.of (o:=⟨.normal,mQ o6 o7 o8 o10 o12 c l (i + 1),E2⟩) ?_ (.inl ⟨rfl,l.length - (i + 1),by omega,i + 1,oa2,_,by omega,rfl,rfl,g1,by omega,hf⟩)
  apply Run.seq (fr':=mQ o6 o7 o8 o10 o12 c l i ++ [(49,.bool true)]) (H':=E')
  ·simp only [mQ]
   generalize l.map pxR = R at *
   generalize l.length = N at *
   (refine ⟨0,?_⟩;simp (maxSteps:=2000000) -implicitDefEqProofs [-getElem?_pos,go_sem,eqV,ah,iT,hlt])
  apply Run.seq (fr':=mQ o6 o7 o8 o10 o12 c l i ++ [(49,.bool true)]) (H':=E')
  ·exact Run.cond (d:=true) (by simp [mQ,aC,au]) ⟨0,rfl⟩
  exact piece g2 _ rfl
theorem Wi {m c i:Nat} {l:List Px} {tl:AM.Frame} (h:FxV E o6 o7 o8 o10 o12 oa s) (hl:s.k≤7000000):∃ E' oa',FxV E' o6 o7 o8 o10 o12 oa' (iY s lcL flL 256)∧∃ code,((Try.f42.body).bind (aF [1,1,1,1,1,1,1,1,1,0])) = some code∧Run X (evT X) 42 m code (mQ o6 o7 o8 o10 o12 c l i ++ tl) E ⟨.normal,[(12,.ptr o12 0 0 0)],E'⟩:=by
 obtain ⟨n0,n9⟩:=qA 256 (by omega)
 have hc:=iZ (l:=lcL) (y:=256) (by unfold lcL;rw [jM,jc];omega)
 have hf:=iZ (l:=flL) (y:=256) (by rw [jc];omega)
 obtain ⟨E',oa',g1,g2,g3⟩:=yA (x:=lcL.getD 256 0) (I:=flL.getD 256 0) (n:=(flL.getD 256 0).toNat) (by omega) h.wr h.ok (by omega) (by omega)
 have hs:=iq (cs:=lcL) (ls:=flL) (y:=256) h.ok
 refine ⟨E',oa',h.step g2 g3 hs.1,_,rfl,?_⟩
 have q6:=h.r6;have q8:=h.r8
 simp only [flO,dD] at q6 q8
 simp only [mQ]
 generalize lcL.getD 256 0 = v1 at *
 generalize flL.getD 256 0 = v2 at *
 generalize l.map pxR = R at *
 generalize l.length = N at *
 generalize lcL = LC at *
 generalize flL = LL at *
 (refine ⟨0,?_⟩;simp (maxSteps:=2000000) -implicitDefEqProofs [-getElem?_pos,go_sem,eqV,ah,retag,q6,q8,hc,hf,g1])
theorem Wj {m:Nat} (h:FxV E o6 o7 o8 o10 o12 oa s) (hne:s.o ≠ []):∃ a g ob,E[a]? = some (some ob)∧Rw (.pb s.o) g ob∧∃ code,((Try.f42.body).bind (aF [1,1,1,1,1,1,1,1,1,1,0])) = some code∧Run X (evT X) 42 m code [(12,.ptr o12 0 0 0)] E ⟨.normal,[(2,.sl a 0 s.o.length g),(3,.int .i64 0)],E⟩:=by
 obtain ⟨⟨vo,τ,a1,h0,ho⟩,hn⟩:=id h.wr
 cases hq:oa with
 | none=>rw [hq] at ho;exact absurd ho.1 hne
 | some a =>
  rw [hq] at ho
  obtain ⟨g,τ2,ob,hτ2,rfl,h3,h4⟩:=ho
  have ht:τ2 = 0:=hτ2.elim id id
  refine ⟨a,g,ob,h3,⟨h4.p,h4.g,h4.row,h4.ids,by rw [h4.tg,ht]⟩,_,rfl,?_⟩
  simp only [fE] at h0
  generalize s.o.length = N at *
  (refine ⟨0,?_⟩;simp (maxSteps:=2000000) -implicitDefEqProofs [-getElem?_pos,go_sem,eqV,ah,h0,ak])
end
end Go.Proofs.Ytbodincpjijdiaa
namespace Go.Proofs.Ytbodincpjijdiaa
open Go.AM
def qU:List Int→Int→Int × Int
 | [],s=>(s,0)
 | x :: r,s=>if 0≤x∧x≤15 then qU r (if 0 < x then IntKind.i64.wrap (s + IntKind.i64.wrap (2 ^ (min (15 - x).toNat 64))) else s) else (s,2)
def fZ (l:List Int):Bool × Int :=
 if 320 < (l.length:Int) then (false,3) else
 if (qU l 0).2 = 0 then (if 32768 < (qU l 0).1 then (false,7) else ((qU l 0).1 == 32768,0)) else (false,2)
theorem u64_nonneg (n:Int):0≤IntKind.u64.wrap n:=by
 have h:IntKind.u64.wrap n = n % 18446744073709551616:=by
  simp [IntKind.wrap,IntKind.signed,IntKind.bits]
 rw [h]
 omega
def wL (n nx la:Int):Int:=if 0 < la then IntKind.i64.wrap (IntKind.i64.wrap (nx + 1) * 2 ^ (min (IntKind.u64.wrap (IntKind.i64.wrap (n - la))).toNat 64)) else nx
def rIn (n:Int):List Int→Nat→Int→Int→List Int→Int × Int × List Int
 | [],_,nx,la,o=>(nx,la,o)
 | x :: r,i,nx,la,o=>if x = n then rIn n r (i + 1) (wL n nx la) n (o.set i (wL n nx la)) else rIn n r (i + 1) nx la o
def wW (l:List Int):Nat→Nat→Int→Int→List Int→Int × Int × List Int
 | 0,_,nx,la,o=>(nx,la,o)
 | k + 1,n,nx,la,o=>wW l k (n + 1) (rIn n l 0 nx la o).1 (rIn n l 0 nx la o).2.1 (rIn n l 0 nx la o).2.2
def D9:List Int→Nat→List Int→List Int
 | [],_,o=>o
 | x :: r,i,o=>D9 r (i + 1) (if x = 0 then o.set i (-1) else o)
def iI (l:List Int):List Int:=D9 l 0 (wW l 15 1 0 0 (List.replicate l.length 0)).2.2
theorem Bq (n:Int):∀ (l:List Int) (i:Nat) (nx la:Int) (o:List Int),(rIn n l i nx la o).2.2.length = o.length
 | [],_,_,_,_=>rfl
 | x :: r,i,nx,la,o=>by
  simp only [rIn]
  split
  ·rw [Bq n r];simp
  ·rw [Bq n r]
theorem Ih (l:List Int):∀ (k n:Nat) (nx la:Int) (o:List Int),(wW l k n nx la o).2.2.length = o.length
 | 0,_,_,_,_=>rfl
 | k + 1,n,nx,la,o=>by rw [wW,Ih l k,Bq]
theorem Ii:∀ (l:List Int) (i:Nat) (o:List Int),(D9 l i o).length = o.length
 | [],_,_=>rfl
 | x :: r,i,o=>by
  rw [D9,Ii r]
  split <;> simp
end Go.Proofs.Ytbodincpjijdiaa
namespace Go.Proofs.Ytbodincpjijdiaa
open Go.AM
def fine (l:List Int):Bool:=l.all fun x=>decide (0≤x∧x≤15)
theorem Ey:∀ (l:List Int) (s:Int),(qU l s).2 = if fine l then 0 else 2
 | [],n=>by simp [qU,fine]
 | x :: r,n=>by
  unfold qU
  by_cases h:0≤x∧x≤15
  ·rw [if_pos h,Ey r];simp [fine,h]
  ·rw [if_neg h];simp only [fine,List.all_cons,decide_eq_false h,Bool.false_and];rfl
def ct (l:List Int) (j:Nat):Int:=(l.count (j:Int):Nat)
end Go.Proofs.Ytbodincpjijdiaa
namespace Go.Proofs.Ytbodincpjijdiaa
open Go.AM
def fst (c:Nat→Int):Nat→Int
 | 0=>0
 | 1=>0
 | i + 2=>2 * (fst c (i + 1) + c (i + 1))
def code (l:List Int) (p:Nat):Int:=if 0 < l.getD p 0 then fst (ct l) (l.getD p 0).toNat + ct (l.take p) (l.getD p 0).toNat else -1
def Inv (l:List Int) (n:Nat) (m nx la:Int):Prop :=
 0≤la∧la≤n∧0≤nx∧(la = 0→nx = 0)∧(if 0 < la then (nx + 1) * 2 ^ (n - la.toNat) else nx) = fst (ct l) n + m
end Go.Proofs.Ytbodincpjijdiaa
namespace Go.Proofs.Ytbodincpjijdiaa
open Go.AM
theorem Ij {l:List Int} (he:(fZ l).2 = 0):l.length≤320∧fine l = true:=by
 unfold fZ at he
 rw [Ey] at he
 by_cases h:320 < (l.length:Int)
 ·rw [if_pos h] at he;cases he
 ·rw [if_neg h] at he
  by_cases hf:fine l = true
  ·exact ⟨by omega,hf⟩
  ·simp [hf] at he
end Go.Proofs.Ytbodincpjijdiaa
namespace Go.Proofs.Ytbodincpjijdiaa
open Go.AM
def jJ (b:List UInt8) (i:Nat):Int:=((b.getD (i / 8) 0).toNat / 2 ^ (i % 8) % 2:Nat)
def mxL:Int→List Int→Int
 | m,[]=>m
 | m,x :: r=>mxL (if m < x then x else m) r
def qV (i code:Int):List Int→List Int→Nat→Option Nat
 | x :: r,y :: cs,j=>if x = i∧y = code then some j else qV i code r cs (j + 1)
 | _,_,_=>none
def t3 (r:Int × Int × Int):AV:=.tup [.int .i64 r.1,.int .i64 r.2.1,.int .i64 r.2.2]
end Go.Proofs.Ytbodincpjijdiaa
namespace Go.Proofs.Ytbodincpjijdiaa
open Go.AM
inductive Res (α:Type) where
 | ok (a:α) (k:Nat) (o:List UInt8)
 | err (e:Int)
abbrev PM (α:Type):=Nat→List UInt8→Res α
def wX {α:Type} (a:α):PM α:=fun k o=>.ok a k o
def wG {α:Type} (e:Int):PM α:=fun _ _=>.err e
def iD {α β:Type} (m:PM α) (f:α→PM β):PM β:=fun k o=>match m k o with
 | .ok a k' o'=>f a k' o'
 | .err e=>.err e
def Oz (b:List UInt8):PM Int:=fun k o=>if k < 8 * b.length then .ok (jJ b k) (k + 1) o else .err 4
def F5 (mo:Int) (c:UInt8):PM Unit:=fun k o=>if (o.length:Int) < mo then .ok () k (o ++ [c]) else .err 3
def Yo:PM Unit:=fun k o=>.ok () ((k + 7) / 8 * 8) o
def pV (b:List UInt8):Nat→PM Int
 | 0=>wX 0
 | n + 1=>iD (pV b n) fun x=>iD (Oz b) fun y=>wX (x + 2 ^ n * y)
def KD (m:PM Unit):Nat→PM Unit
 | 0=>wX ()
 | n + 1=>iD m fun _=>KD m n
def decP (b:List UInt8) (l codes:List Int):Nat→Nat→Int→PM Nat
 | 0,_,_=>wG 5
 | k + 1,i,x=>iD (Oz b) fun y=>match qV i (2 * x + y) l codes 0 with
  | some j=>wX j
  | none=>decP b l codes k (i + 1) (2 * x + y)
def KE (b:List UInt8) (l:List Int):PM Nat:=if (fZ l).2 = 0 then decP b l (iI l) (mxL 0 l).toNat 1 0 else wG (fZ l).2
def TK (b:List UInt8) (mo:Int):PM Unit:=iD Yo fun _=>iD (pV b 16) fun n=>iD (pV b 16) fun m =>
 if n + m = 65535 then KD (iD (pV b 8) fun c=>F5 mo (UInt8.ofNat c.toNat)) n.toNat else wG 5
def Yp:List (Int × Nat):=[(3,0),(4,0),(5,0),(6,0),(7,0),(8,0),(9,0),(10,0),(11,1),(13,1),(15,1),(17,1),(19,2),(23,2),(27,2),(31,2),(35,3),(43,3),(51,3),(59,3),(67,4),(83,4),(99,4),(115,4),(131,5),(163,5),(195,5),(227,5),(258,0)]
def Yq (s:Nat):Int:=(Yp.getD (s - 257) (0,0)).1
def Yr (s:Nat):Nat:=(Yp.getD (s - 257) (0,0)).2
def Wn (d:Nat):Nat:=if d < 4 then 0 else d / 2 - 1
def Wp (d:Nat):Nat:=if d < 4 then 1 + d else 1 + (2 + d % 2) * 2 ^ (d / 2 - 1)
def TL (mo:Int) (d:Nat):PM Unit:=fun k o=>F5 mo (o.getD (o.length - d) 0) k o
def Yt (mo:Int) (d n:Nat):PM Unit:=fun k o=>if d > o.length then .err 5 else KD (TL mo d) n k o
def Wq (b:List UInt8) (mo:Int) (dl:List Int) (s:Nat):PM Unit :=
 if 286≤s then wG 5 else iD (pV b (Yr s)) fun x=>iD (KE b dl) fun d =>
  if 30≤d then wG 5 else iD (pV b (Wn d)) fun y=>Yt mo (Wp d + y.toNat) (Yq s + x).toNat
def F6 (b:List UInt8) (mo:Int) (ll dl:List Int):Nat→PM Unit
 | 0=>wG 99
 | f + 1=>iD (KE b ll) fun s=>if s = 256 then wX () else if s < 256 then iD (F5 mo (UInt8.ofNat s)) fun _=>F6 b mo ll dl f
  else iD (Wq b mo dl s) fun _=>F6 b mo ll dl f
def afj:List Nat:=[16,17,18,0,8,7,9,6,10,5,11,4,12,3,13,2,14,1,15]
def hcP (b:List UInt8):List Nat→List Int→PM (List Int)
 | [],c=>wX c
 | i :: r,c=>iD (pV b 3) fun x=>hcP b r (c.set i x)
def Wu (n:Nat) (acc:List Int) (x:Int) (t:Nat):PM (List Int):=if n < acc.length + t then wG 5 else wX (acc ++ List.replicate t x)
def afk (b:List UInt8) (n:Nat) (acc:List Int) (s:Nat):PM (List Int) :=
 if s = 16 then (if acc = [] then wG 5 else iD (pV b 2) fun t=>Wu n acc (acc.getLastD 0) (3 + t.toNat))
 else if s = 17 then iD (pV b 3) fun t=>Wu n acc 0 (3 + t.toNat)
 else if s = 18 then iD (pV b 7) fun t=>Wu n acc 0 (11 + t.toNat)
 else wX (acc ++ [(s:Int)])
def Yu (b:List UInt8) (cl:List Int) (n:Nat):Nat→List Int→PM (List Int)
 | 0,_=>wG 99
 | f + 1,acc=>if n≤acc.length then wX acc else iD (KE b cl) fun s=>iD (afk b n acc s) fun a2=>Yu b cl n f a2
def Yv (l:List Int):Bool:=(l.filter (0 < ·)) == [1]
def afl (l:List Int):Bool:=(l.filter (0 < ·)) == []
def Yw (l:List Int):Bool:=(fZ l).2 == 0 && (l.getD 256 0 != 0 && ((fZ l).1 || Yv l))
def Yx (l:List Int):Bool:=(fZ l).2 == 0 && ((fZ l).1 || (Yv l || afl l))
def afm (b:List UInt8) (F:Nat):PM (List Int × List Int):=iD (pV b 5) fun nl=>iD (pV b 5) fun nd=>iD (pV b 4) fun nc =>
 if 286 < 257 + nl∨30 < 1 + nd then wG 5 else iD (hcP b (afj.take (4 + nc).toNat) (List.replicate 19 0)) fun cl =>
  if fZ cl = (true,0) then iD (Yu b cl ((257 + nl) + (1 + nd)).toNat F []) fun a =>
   if (Yw (a.take (257 + nl).toNat) && Yx (a.drop (257 + nl).toNat)) = true then wX (a.take (257 + nl).toNat,a.drop (257 + nl).toNat) else wG 5
  else wG 5
def Qh:List Int:=List.replicate 144 8 ++ List.replicate 112 9 ++ List.replicate 24 7 ++ List.replicate 8 8
def OA:List Int:=List.replicate 32 5
structure Blk where
 kind:Int
 last:Bool
 k:Nat
 n:Nat
def Qi (b:List UInt8) (mo:Int) (F:Nat) (t:Int):PM Unit :=
 if t = 0 then TK b mo else if t = 1 then F6 b mo Qh OA F else if t = 2 then iD (afm b F) fun c=>F6 b mo c.1 c.2 F else wG 5
def Qj (b:List UInt8) (mo:Int) (F:Nat):PM Blk:=fun k o=>iD (pV b 1) (fun l=>iD (pV b 2) fun t=>iD (Qi b mo F t) fun _=>fun k' o'=>.ok ⟨t,l == 1,k,o'.length - o.length⟩ k' o') k o
def F7 (b:List UInt8) (mo:Int) (F:Nat):Nat→PM (List Blk)
 | 0=>wG 99
 | f + 1=>iD (Qj b mo F) fun x=>if x.last = true then wX [x] else iD (F7 b mo F f) fun r=>wX (x :: r)
def Qk (F:Nat) (b:List UInt8) (mo:Int):List UInt8 × Int × Int :=
 if mo < 0 then ([],0,2) else match F7 b mo F F 0 [] with
 | .ok _ k o=>(o,((k + 7) / 8:Nat),0)
 | .err e=>([],0,e)
end Go.Proofs.Ytbodincpjijdiaa
namespace Go.Proofs.Ytbodincpjijdiaa
open Go.AM
structure Loc {α:Type} (m:List UInt8→Int→PM α):Prop where
 up:∀ b mo k o a k' o',m b mo k o = .ok a k' o'→k≤8 * b.length→k≤k'∧k'≤8 * b.length∧(∃ x,o' = o ++ x)∧((o.length:Int)≤mo→(o'.length:Int)≤mo)
 same:∀ b b2 mo mo2 k o a k' o',m b mo k o = .ok a k' o'→k≤8 * b.length→(∀ i,i < k'→jJ b2 i = jJ b i)→k'≤8 * b2.length→(o'.length:Int)≤mo2→m b2 mo2 k o = .ok a k' o'
 cut:∀ b b2 mo k o a k' o',m b mo k o = .ok a k' o'→k≤8 * b.length→(∀ i,i < 8 * b2.length→jJ b2 i = jJ b i)→k≤8 * b2.length→8 * b2.length < k'→(o.length:Int)≤mo→m b2 mo k o = .err 4
 few:∀ b mo mo2 k o a k' o',m b mo k o = .ok a k' o'→k≤8 * b.length→(o.length:Int)≤mo2→mo2 < o'.length→m b mo2 k o = .err 3
theorem KF {α:Type} {a a':α} {k k':Nat} {o o':List UInt8} (h:Res.ok a k o = .ok a' k' o'):a = a'∧k = k'∧o = o':=by
 cases h;exact ⟨rfl,rfl,rfl⟩
theorem Bv {α β:Type} {m:PM α} {f:α→PM β} {k k':Nat} {o o':List UInt8} {b:β} (h:iD m f k o = .ok b k' o'):∃ a k1 o1,m k o = .ok a k1 o1∧f a k1 o1 = .ok b k' o':=by
 unfold iD at h
 cases hm:m k o with
 | ok a k1 o1=>rw [hm] at h;exact ⟨a,k1,o1,rfl,h⟩
 | err e=>rw [hm] at h;cases h
theorem dW {α β:Type} {m:PM α} {f:α→PM β} {k k1:Nat} {o o1:List UInt8} {a:α} (h:m k o = .ok a k1 o1):iD m f k o = f a k1 o1:=by
 unfold iD;rw [h]
theorem Ik {α β:Type} {m:PM α} {f:α→PM β} {k:Nat} {o:List UInt8} {e:Int} (h:m k o = .err e):iD m f k o = .err e:=by
 unfold iD;rw [h]
theorem Loc.ret {α:Type} (a:α):Loc (fun _ _=>wX a) where
 up:=by
  intro b mo k o a' k' o' h hk
  obtain ⟨_,rfl,rfl⟩:=KF h
  exact ⟨Nat.le_refl _,hk,⟨[],by simp⟩,fun h=>h⟩
 same:=fun b b2 mo mo2 k o a k' o' h _ _ _ _=>h
 cut:=by
  intro b b2 mo k o a' k' o' h hk _ h2 h3
  obtain ⟨_,rfl,rfl⟩:=KF h
  omega
 few:=by
  intro b mo mo2 k o a' k' o' h hk h2 h3
  obtain ⟨_,rfl,rfl⟩:=KF h
  omega
theorem Loc.bad {α:Type} (e:Int):Loc (α:=α) (fun _ _=>wG e) where
 up:=by intro b mo k o a' k' o' h;cases h
 same:=by intro b b2 mo mo2 k o a' k' o' h;cases h
 cut:=by intro b b2 mo k o a' k' o' h;cases h
 few:=by intro b mo mo2 k o a' k' o' h;cases h
theorem Loc.bnd {α β:Type} {m:List UInt8→Int→PM α} {f:α→List UInt8→Int→PM β} (hm:Loc m) (hf:∀ a,Loc (f a)):Loc (fun b mo=>iD (m b mo) fun a=>f a b mo) where
 up:=by
  intro b mo k o a' k' o' h hk
  obtain ⟨a,k1,o1,h1,h2⟩:=Bv h
  obtain ⟨e1,e2,⟨x,rfl⟩,e4⟩:=hm.up _ _ _ _ _ _ _ h1 hk
  obtain ⟨f1,f2,⟨y,rfl⟩,f4⟩:=(hf a).up _ _ _ _ _ _ _ h2 e2
  exact ⟨by omega,f2,⟨x ++ y,by simp⟩,fun h=>f4 (e4 h)⟩
 same:=by
  intro b b2 mo mo2 k o a' k' o' h hk hb hl ho
  obtain ⟨a,k1,o1,h1,h2⟩:=Bv h
  obtain ⟨e1,e2,⟨x,rfl⟩,e4⟩:=hm.up _ _ _ _ _ _ _ h1 hk
  obtain ⟨f1,f2,⟨y,rfl⟩,f4⟩:=(hf a).up _ _ _ _ _ _ _ h2 e2
  have e5:=hm.same b b2 mo mo2 k o a k1 _ h1 hk (fun i hi=>hb i (by omega)) (by omega) (by simp at ho ⊢;omega)
  rw [dW e5]
  exact (hf a).same b b2 mo mo2 _ _ _ _ _ h2 e2 hb hl ho
 cut:=by
  intro b b2 mo k o a' k' o' h hk hb hl hc hm0
  obtain ⟨a,k1,o1,h1,h2⟩:=Bv h
  obtain ⟨e1,e2,⟨x,rfl⟩,e4⟩:=hm.up _ _ _ _ _ _ _ h1 hk
  by_cases h3:8 * b2.length < k1
  ·rw [Ik (hm.cut b b2 mo k o a k1 _ h1 hk hb hl h3 hm0)]
  ·rw [dW (hm.same b b2 mo mo k o a k1 _ h1 hk (fun i hi=>hb i (by omega)) (by omega) (e4 hm0))]
   exact (hf a).cut b b2 mo _ _ _ _ _ h2 e2 hb (by omega) hc (e4 hm0)
 few:=by
  intro b mo mo2 k o a' k' o' h hk h2 h3
  obtain ⟨a,k1,o1,h1,h4⟩:=Bv h
  obtain ⟨e1,e2,⟨x,rfl⟩,e4⟩:=hm.up _ _ _ _ _ _ _ h1 hk
  by_cases h5:mo2 < ((o ++ x).length:Int)
  ·rw [Ik (hm.few b mo mo2 k o a k1 _ h1 hk h2 h5)]
  ·rw [dW (hm.same b b mo mo2 k o a k1 _ h1 hk (fun _ _=>rfl) e2 (by omega))]
   exact (hf a).few b mo mo2 _ _ _ _ _ h4 e2 (by omega) h3
end Go.Proofs.Ytbodincpjijdiaa
namespace Go.Proofs.Ytbodincpjijdiaa
open Go.AM
theorem Yy {y u k j:Nat} (hu:u < 2) (hy:y / 2 ^ k % 2 = 0):(y ||| u * 2 ^ k) / 2 ^ j % 2 = if j = k then u else y / 2 ^ j % 2:=by
 have e:∀ x i:Nat,x / 2 ^ i % 2 = if x.testBit i then 1 else 0:=by
  intro x i
  rw [Nat.testBit_eq_decide_div_mod_eq]
  by_cases h:x / 2 ^ i % 2 = 1
  ·simp [h]
  ·rw [if_neg (by simpa using h)];omega
 have hyk:y.testBit k = false:=by
  rw [Nat.testBit_eq_decide_div_mod_eq,hy];rfl
 rw [e,e,Nat.testBit_or]
 have hu2:u = 0∨u = 1:=by omega
 rcases hu2 with rfl | rfl
 ·rw [Nat.zero_mul,Nat.zero_testBit,Bool.or_false]
  by_cases hj:j = k
  ·subst hj;simp [hyk]
  ·simp [hj]
 ·rw [Nat.one_mul,Nat.testBit_two_pow]
  by_cases hj:j = k
  ·subst hj;simp
  ·have:¬ k = j:=fun h=>hj h.symm
   simp [hj,this]
def Cln (s:Ws):Prop:=∀ i,s.k≤i→jJ s.o i = 0
structure Gd (s:Ws):Prop where
 ok:gQ s
 cl:Cln s
structure Ext (s s':Ws):Prop where
 le:s.k≤s'.k
 at':∀ i,i < s.k→jJ s'.o i = jJ s.o i
theorem Ext.refl (s:Ws):Ext s s:=⟨Nat.le_refl _,fun _ _=>rfl⟩
theorem Ext.trans {s s1 s2:Ws} (h:Ext s s1) (h2:Ext s1 s2):Ext s s2:=⟨Nat.le_trans h.le h2.le,fun i hi=>by rw [h2.at' i (Nat.lt_of_lt_of_le hi h.le),h.at' i hi]⟩
theorem Bz {s:Ws} {x:Int} (h:Gd s) (i:Nat):jJ (dR s x).o i = if i = s.k then x % 2 else jJ s.o i:=by
 have hok:=h.ok
 unfold gQ at hok
 have h0:∀ i,jJ (if s.k % 8 = 0 then s.o ++ [0] else s.o) i = jJ s.o i:=by
  intro i
  split
  ·unfold jJ
   by_cases h1:i / 8 < s.o.length
   ·rw [List.getD_eq_getElem?_getD,List.getD_eq_getElem?_getD,List.getElem?_append_left h1]
   ·have h3:s.o.getD (i / 8) 0 = 0:=by rw [List.getD_eq_getElem?_getD,List.getElem?_eq_none (by omega)];rfl
    have h2:(s.o ++ [0]).getD (i / 8) 0 = 0:=by
     rw [List.getD_eq_getElem?_getD,List.getElem?_append_right (by omega)]
     cases i / 8 - s.o.length with
     | zero=>rfl
     | succ n=>rfl
    rw [h2,h3]
  ·rfl
 have hlen:s.k / 8 < (if s.k % 8 = 0 then s.o ++ [0] else s.o).length:=by
  split
  ·simp;omega
  ·omega
 have hcl:jJ (if s.k % 8 = 0 then s.o ++ [0] else s.o) s.k = 0:=by rw [h0];exact h.cl _ (Nat.le_refl _)
 rw [← h0 i]
 unfold dR
 simp only
 generalize (if s.k % 8 = 0 then s.o ++ [0] else s.o) = b at *
 unfold jJ at *
 by_cases h8:i / 8 = s.k / 8
 ·rw [h8]
  have e1:(b.set (s.k / 8) (orB (b.getD (s.k / 8) 0) x (s.k % 8))).getD (s.k / 8) 0 = orB (b.getD (s.k / 8) 0) x (s.k % 8):=by
   rw [List.getD_eq_getElem?_getD,List.getElem?_set_self hlen];rfl
  rw [e1]
  generalize b.getD (s.k / 8) 0 = y at *
  have hx2:(x % 2).toNat < 2:=by omega
  have hkr:s.k % 8 < 8:=Nat.mod_lt _ (by omega)
  have hor:y.toNat ||| (x % 2).toNat * 2 ^ (s.k % 8) < 256:=Nat.or_lt_two_pow (n:=8) y.toNat_lt (Wv hx2 hkr)
  have e2:(orB y x (s.k % 8)).toNat = y.toNat ||| (x % 2).toNat * 2 ^ (s.k % 8):=by
   unfold orB
   rw [UInt8.toNat_ofNat']
   exact Nat.mod_eq_of_lt hor
  rw [e2,Yy hx2 (by omega)]
  by_cases hi:i = s.k
  ·rw [if_pos (by rw [hi]),if_pos hi];omega
  ·rw [if_neg (by omega),if_neg hi]
 ·have e1:(b.set (s.k / 8) (orB (b.getD (s.k / 8) 0) x (s.k % 8))).getD (i / 8) 0 = b.getD (i / 8) 0:=by
   rw [List.getD_eq_getElem?_getD,List.getElem?_set_ne (Ne.symm h8),← List.getD_eq_getElem?_getD]
  rw [e1,if_neg (fun h=>h8 (by rw [h]))]
theorem Nl {s:Ws} {x:Int} (h:Gd s):Gd (dR s x)∧Ext s (dR s x):=by
 refine ⟨⟨vH h.ok,fun i hi=>?_⟩,Nat.le_succ _,fun i hi=>?_⟩
 ·have hi':s.k + 1≤i:=hi
  rw [Bz h,if_neg (by omega)]
  exact h.cl i (by omega)
 ·rw [Bz h,if_neg (by omega)]
theorem fO {s:Ws} {x:Int} (h:Gd s):∀ n,Gd (bI s x n)∧Ext s (bI s x n)∧∀ i,i < n→jJ (bI s x n).o (s.k + i) = x / 2 ^ i % 2
 | 0=>⟨h,Ext.refl s,fun i hi=>absurd hi (by omega)⟩
 | n + 1=>by
  obtain ⟨h1,h2,h3⟩:=fO (x:=x) h n
  obtain ⟨h4,h5⟩:=Nl (x:=x / 2 ^ n) h1
  have hk:=(bV (x:=x) h.ok n).2
  refine ⟨h4,h2.trans h5,fun i hi=>?_⟩
  show jJ (dR _ _).o _ = _
  rw [Bz h1]
  by_cases hin:i = n
  ·subst hin
   rw [if_pos hk.symm]
  ·rw [if_neg (by omega)]
   exact h3 i (by omega)
theorem BO {x:Int}:∀ (n:Nat) {s:Ws},Gd s→Gd (lN s x n)∧Ext s (lN s x n)∧∀ i,i < n→jJ (lN s x n).o (s.k + i) = x / 2 ^ (n - 1 - i) % 2
 | 0,s,h=>⟨h,Ext.refl s,fun i hi=>absurd hi (by omega)⟩
 | n + 1,s,h=>by
  obtain ⟨h4,h5⟩:=Nl (x:=x / 2 ^ n) h
  obtain ⟨h1,h2,h3⟩:=BO (x:=x) n h4
  have hk:(dR s (x / 2 ^ n)).k = s.k + 1:=rfl
  refine ⟨h1,h5.trans h2,fun i hi=>?_⟩
  show jJ (lN (dR s (x / 2 ^ n)) x n).o _ = _
  cases i with
  | zero =>
   rw [h2.at' _ (by rw [hk];omega),Nat.add_zero,Bz h,if_pos rfl]
   rfl
  | succ i =>
   have:=h3 i (by omega)
   rw [hk] at this
   rw [show s.k + (i + 1) = s.k + 1 + i by omega,this,show n + 1 - 1 - (i + 1) = n - 1 - i by omega]
structure Agr (b:List UInt8) (s:Ws):Prop where
 le:s.k≤8 * b.length
 at':∀ i,i < s.k→jJ b i = jJ s.o i
theorem Agr.ext {b:List UInt8} {s s':Ws} (h:Ext s s') (h2:Agr b s'):Agr b s:=⟨Nat.le_trans h.le h2.le,fun i hi=>by rw [h2.at' i (Nat.lt_of_lt_of_le hi h.le),h.at' i hi]⟩
theorem TM (x:Int) (n:Nat):x % 2 ^ (n + 1) = x % 2 ^ n + 2 ^ n * (x / 2 ^ n % 2):=by
 have hp:(0:Int) < 2 ^ n:=Int.pow_pos (by omega)
 rw [Int.pow_succ]
 generalize (2:Int) ^ n = p at *
 have h1:=Int.emod_add_mul_ediv x p
 have h2:=Int.emod_add_mul_ediv (x / p) 2
 have h3:=Int.emod_nonneg x (show p ≠ 0 by omega)
 have h4:=Int.emod_lt_of_pos x hp
 generalize x % p = r at *
 generalize hq:x / p = q at *
 have h5:q % 2 = 0∨q % 2 = 1:=by omega
 have e:x = (r + p * (q % 2)) + (p * 2) * (q / 2):=by
  rw [← h1]
  conv=>lhs;rw [← h2]
  rw [Int.mul_add,Int.mul_assoc]
  omega
 rw [e,Int.add_mul_emod_self_left]
 rcases h5 with h5 | h5 <;> rw [h5]
 ·exact Int.emod_eq_of_lt (by omega) (by omega)
 ·exact Int.emod_eq_of_lt (by omega) (by omega)
theorem BP {b:List UInt8} {k:Nat} {o:List UInt8} {x:Int}:∀ n,k + n≤8 * b.length→(∀ i,i < n→jJ b (k + i) = x / 2 ^ i % 2)→pV b n k o = .ok (x % 2 ^ n) (k + n) o
 | 0,_,_=>by
  show Res.ok 0 k o = _
  rw [Int.pow_zero,Int.emod_one]
  rfl
 | n + 1,hl,h=>by
  have ih:=BP (x:=x) (o:=o) n (by omega) fun i hi=>h i (by omega)
  unfold pV
  rw [dW ih]
  have hb:Oz b (k + n) o = .ok (x / 2 ^ n % 2) (k + n + 1) o:=by
   unfold Oz
   rw [if_pos (by omega),h n (by omega)]
  rw [dW hb,TM]
  rfl
theorem qW {b:List UInt8} {s:Ws} {o:List UInt8} {x:Int} {n:Nat} (h:Gd s) (ha:Agr b (bI s x n)):pV b n s.k o = .ok (x % 2 ^ n) (bI s x n).k o:=by
 have hk:=(bV (x:=x) h.ok n).2
 have hle:=ha.le
 rw [hk] at hle ⊢
 refine BP n hle fun i hi=>?_
 rw [ha.at' _ (by omega)]
 exact (fO h n).2.2 i hi
theorem Ql {b:List UInt8} {l codes:List Int} {c:Int} {L y:Nat} {o:List UInt8} (hc:0≤c) (hno:∀ i,1≤i→i < L→qV (i:Nat) (c / 2 ^ (L - i)) l codes 0 = none) (hyes:qV (L:Nat) c l codes 0 = some y) (k0:Nat) (hle:k0 + L≤8 * b.length) (hb:∀ i,i < L→jJ b (k0 + i) = c / 2 ^ (L - 1 - i) % 2) :
  ∀ (r i f:Nat),r + i = L + 1→1≤i→1≤r→r≤f→decP b l codes f i (c / 2 ^ r) (k0 + i - 1) o = .ok y (k0 + L) o
 | 0,i,f,_,_,h,_=>absurd h (by omega)
 | r + 1,i,f,hi,h1,_,hf=>by
  obtain ⟨f,rfl⟩:∃ g,f = g + 1:=⟨f - 1,by omega⟩
  have hbit:Oz b (k0 + i - 1) o = .ok (c / 2 ^ r % 2) (k0 + i) o:=by
   unfold Oz
   have:=hb (i - 1) (by omega)
   rw [show k0 + (i - 1) = k0 + i - 1 by omega,show L - 1 - (i - 1) = r by omega] at this
   rw [if_pos (by omega),this,show k0 + i - 1 + 1 = k0 + i by omega]
  have hx:2 * (c / 2 ^ (r + 1)) + c / 2 ^ r % 2 = c / 2 ^ r:=by
   rw [Int.pow_succ,← Int.ediv_ediv_of_nonneg (Int.le_of_lt (Int.pow_pos (by omega)))]
   omega
  unfold decP
  rw [dW hbit,hx]
  by_cases hr:r = 0
  ·subst hr
   have:i = L:=by omega
   subst this
   rw [Int.pow_zero,Int.ediv_one,hyes]
   rfl
  ·have:=hno i h1 (by omega)
   rw [show L - i = r by omega] at this
   rw [this]
   have ih:=Ql hc hno hyes k0 hle hb (o:=o) r (i + 1) f (by omega) (by omega) (by omega) (by omega)
   rw [show k0 + (i + 1) - 1 = k0 + i by omega] at ih
   exact ih
def BQ (l codes:List Int) (y:Nat):Prop:=1≤(l.getD y 0).toNat∧(l.getD y 0).toNat≤(mxL 0 l).toNat∧0≤codes.getD y 0∧codes.getD y 0 < 2 ^ (l.getD y 0).toNat ∧
 (∀ i,1≤i→i < (l.getD y 0).toNat→qV (i:Nat) (codes.getD y 0 / 2 ^ ((l.getD y 0).toNat - i)) l codes 0 = none)∧qV ((l.getD y 0).toNat:Nat) (codes.getD y 0) l codes 0 = some y
theorem Qm {b:List UInt8} {l:List Int} {s:Ws} {y:Nat} {o:List UInt8} (h:Gd s) (hl:(fZ l).2 = 0) (hc:BQ l (iI l) y) (ha:Agr b (iY s (iI l) l y)):KE b l s.k o = .ok y (iY s (iI l) l y).k o:=by
 obtain ⟨c1,c2,c3,c3',c4,c5⟩:=hc
 unfold iY at ha ⊢
 have hk:=(BR (x:=(iI l).getD y 0) (l.getD y 0).toNat h.ok).2
 obtain ⟨_,_,hb⟩:=BO (x:=(iI l).getD y 0) (l.getD y 0).toNat h
 have hle:=ha.le
 rw [hk] at hle ⊢
 unfold KE
 rw [if_pos hl]
 have:=Ql (o:=o) c3 c4 c5 s.k hle (fun i hi=>by rw [ha.at' _ (by omega)];exact hb i hi) (l.getD y 0).toNat 1 (mxL 0 l).toNat (by omega) (by omega) c1 c2
 rw [show (iI l).getD y 0 / 2 ^ (l.getD y 0).toNat = 0 from Int.ediv_eq_zero_of_lt c3 c3'] at this
 exact this
end Go.Proofs.Ytbodincpjijdiaa
namespace Go.Proofs.Ytbodincpjijdiaa
open Go.AM
def lcX:List Int:=((List.range 144).map fun i=>Int.ofNat (48 + i)) ++ ((List.range 112).map fun i=>Int.ofNat (400 + i)) ++ ((List.range 24).map fun i=>Int.ofNat i) ++ ((List.range 8).map fun i=>Int.ofNat (192 + i))
def dcX:List Int:=(List.range 32).map fun i=>Int.ofNat i
theorem Vz:lcL = lcX:=by decide +kernel
theorem KG:iI flL = lcX:=by decide +kernel
theorem VA:dcL = dcX:=by decide +kernel
theorem KH:iI flD = dcX:=by decide +kernel
theorem zD:(fZ flL).2 = 0∧(fZ flD).2 = 0∧(mxL 0 flL).toNat = 9∧(mxL 0 flD).toNat = 5:=by decide +kernel
theorem wY {i code:Int}:∀ (l cs:List Int) (j:Nat),(∀ p ∈ l.zip cs,¬ (p.1 = i∧p.2 = code))→qV i code l cs j = none
 | [],_,_,_=>by unfold qV;rfl
 | x :: r,[],_,_=>by unfold qV;rfl
 | x :: r,y :: cs,j,h=>by
  unfold qV
  rw [if_neg (h (x,y) (List.mem_cons_self ..))]
  exact wY r cs _ fun p hp=>h p (List.mem_cons_of_mem _ hp)
theorem Il:∀ p ∈ flL.zip lcX,(p.1 = 8∧48≤p.2∧p.2≤199)∨(p.1 = 9∧400≤p.2∧p.2≤511)∨(p.1 = 7∧0≤p.2∧p.2≤23):=by decide +kernel
theorem Io:∀ p ∈ flD.zip dcX,p.1 = 5∧0≤p.2∧p.2≤31:=by decide +kernel
theorem TN:∀ y,y < 288→(flL.getD y 0,lcX.getD y 0) ∈ flL.zip lcX∧qV (flL.getD y 0).toNat (lcX.getD y 0) flL lcX 0 = some y:=by decide +kernel
theorem TP:∀ y,y < 32→(flD.getD y 0,dcX.getD y 0) ∈ flD.zip dcX∧qV (flD.getD y 0).toNat (dcX.getD y 0) flD dcX 0 = some y:=by decide +kernel
theorem Yz {y:Nat} (h:y < 288):BQ flL (iI flL) y:=by
 obtain ⟨h1,h2⟩:=TN y h
 have hc:=Il _ h1
 unfold BQ
 rw [KG,zD.2.2.1]
 simp only at hc
 generalize flL.getD y 0 = L at *
 generalize lcX.getD y 0 = c at *
 have none:∀ i:Nat,i < L.toNat→(i = 7→c / 2 ^ (L.toNat - i) ≥ 24)→(i = 8→c / 2 ^ (L.toNat - i) ≥ 200)→L≤9→qV (i:Nat) (c / 2 ^ (L.toNat - i)) flL lcX 0 = none:=by
  intro i hi h7 h8 h9
  refine wY _ _ _ fun p hp ⟨e1,e2⟩=>?_
  have:=Il p hp
  rw [e1,e2] at this
  rcases this with ⟨g1,g2,g3⟩ | ⟨g1,g2,g3⟩ | ⟨g1,g2,g3⟩
  ·have:=h8 (by omega);omega
  ·omega
  ·have:=h7 (by omega);omega
 rcases hc with ⟨rfl,g2,g3⟩ | ⟨rfl,g2,g3⟩ | ⟨rfl,g2,g3⟩
 ·refine ⟨by decide,by decide,by omega,?_,fun i h1 hi=>none i hi ?_ ?_ (by omega),h2⟩
  ·show c < 256;omega
  ·rintro rfl
   show c / 2 ≥ 24
   omega
  ·rintro rfl
   exact absurd hi (by decide)
 ·refine ⟨by decide,by decide,by omega,?_,fun i h1 hi=>none i hi ?_ ?_ (by omega),h2⟩
  ·show c < 512;omega
  ·rintro rfl
   show c / 4 ≥ 24
   omega
  ·rintro rfl
   show c / 2 ≥ 200
   omega
 ·refine ⟨by decide,by decide,by omega,?_,fun i h1 hi=>none i hi ?_ ?_ (by omega),h2⟩
  ·show c < 128;omega
  ·rintro rfl
   exact absurd hi (by decide)
  ·rintro rfl
   exact absurd hi (by decide)
theorem YA {y:Nat} (h:y < 32):BQ flD (iI flD) y:=by
 obtain ⟨h1,h2⟩:=TP y h
 have hc:=Io _ h1
 unfold BQ
 rw [KH,zD.2.2.2]
 simp only at hc
 generalize flD.getD y 0 = L at *
 generalize dcX.getD y 0 = c at *
 obtain ⟨rfl,g2,g3⟩:=hc
 refine ⟨by decide,by decide,by omega,?_,fun i h1 hi=>?_,h2⟩
 ·show c < 32;omega
 ·refine wY _ _ _ fun p hp ⟨e1,e2⟩=>?_
  have:=(Io p hp).1
  have:i < 5:=hi
  omega
theorem pX {s:Ws} {cs ls:List Int} {y:Nat} (h:Gd s):Gd (iY s cs ls y)∧Ext s (iY s cs ls y):=by
 obtain ⟨h1,h2,_⟩:=BO (x:=cs.getD y 0) (ls.getD y 0).toNat h
 exact ⟨h1,h2⟩
theorem F8 {b:List UInt8} {s:Ws} {y:Nat} {o:List UInt8} (h:Gd s) (hy:y < 288) (ha:Agr b (iY s lcL flL y)):KE b Qh s.k o = .ok y (iY s lcL flL y).k o:=by
 have e:lcL = iI flL:=by rw [Vz,KG]
 rw [e] at ha ⊢
 exact Qm h zD.1 (Yz hy) ha
theorem TQ {b:List UInt8} {s:Ws} {y:Nat} {o:List UInt8} (h:Gd s) (hy:y < 32) (ha:Agr b (iY s dcL flD y)):KE b OA s.k o = .ok y (iY s dcL flD y).k o:=by
 have e:dcL = iI flD:=by rw [VA,KH]
 rw [e] at ha ⊢
 exact Qm h zD.2.1 (YA hy) ha
theorem Qn {s:Ws} {x:Px} (h:Gd s):Gd (pxW s x)∧Ext s (pxW s x):=by
 unfold pxW
 split
 ·exact pX h
 ·obtain ⟨a1,b1⟩:=pX (cs:=lcL) (ls:=flL) (y:=(lenOf x.len.toNat).1) h
  obtain ⟨a2,b2,_⟩:=fO (x:=x.len - ((lenOf x.len.toNat).2.1:Nat)) a1 (lenOf x.len.toNat).2.2
  obtain ⟨a3,b3⟩:=pX (cs:=dcL) (ls:=flD) (y:=(bG x.dist.toNat).1) a2
  obtain ⟨a4,b4,_⟩:=fO (x:=x.dist - ((bG x.dist.toNat).2.1:Nat)) a3 (bG x.dist.toNat).2.2
  exact ⟨a4,b1.trans (b2.trans (b3.trans b4))⟩
theorem F9:∀ (l:List Px) {s:Ws},Gd s→Gd (l.foldl pxW s)∧Ext s (l.foldl pxW s)
 | [],s,h=>⟨h,Ext.refl s⟩
 | x :: l,s,h=>by
  obtain ⟨a1,b1⟩:=Qn (x:=x) h
  obtain ⟨a2,b2⟩:=F9 l a1
  exact ⟨a2,b1.trans b2⟩
theorem TR:∀ n,n < 259→3≤n→Yq (lenOf n).1 = ((lenOf n).2.1:Nat)∧Yr (lenOf n).1 = (lenOf n).2.2:=by decide +kernel
theorem Gf {per n:Nat}:∀ (f s base bits j:Nat),bits≤(gF per n f s base bits j).2.2
 | 0,_,_,_,_=>Nat.le_refl _
 | f + 1,s,base,bits,j=>by
  unfold gF
  split
  ·exact Nat.le_trans (Nat.le_succ _) (Gf f _ _ _ _)
  ·split
   ·exact Nat.le_refl _
   ·exact Gf f _ _ _ _
theorem TS {n:Nat} (h1:1≤n) (h:n≤32768):Wp (bG n).1 = (bG n).2.1∧Wn (bG n).1 = (bG n).2.2:=by
 unfold bG Wp Wn
 by_cases h4:n≤4
 ·rw [if_pos h4]
  simp only
  rw [if_pos (by omega),if_pos (by omega)]
  omega
 ·rw [if_neg h4]
  have hb:=Gf (per:=2) (n:=n) 40 4 5 1 0
  obtain ⟨b,j,hj,he⟩:=uj (n:=n) (f:=40) (bits:=1) (j:=0) (by omega) (BU h)
  have he':gF 2 n 40 4 5 1 0 = (2 * b + 2 + j,(2 + j) * 2 ^ b + 1,b):=he
  rw [he'] at hb ⊢
  simp only at hb ⊢
  rw [if_neg (by omega),if_neg (by omega)]
  have e1:(2 * b + 2 + j) / 2 - 1 = b:=by omega
  have e2:(2 * b + 2 + j) % 2 = j:=by omega
  rw [e1,e2]
  omega
theorem Np {mo:Int} {d:Nat}:∀ (n k:Nat) (o:List UInt8),((iE d n o).length:Int)≤mo→KD (TL mo d) n k o = .ok () k (iE d n o)
 | 0,_,_,_=>rfl
 | n + 1,k,o,h=>by
  have hl:=qX d (n + 1) o
  have h1:TL mo d k o = .ok () k (o ++ [o.getD (o.length - d) 0]):=by
   unfold TL F5
   rw [if_pos (by omega)]
  unfold KD
  rw [dW h1]
  exact Np n k _ h
theorem yB:∀ (l:List Px) (o out:List UInt8),iy l o = (out,0)→o.length≤out.length
 | [],o,out,h=>by
  unfold iy at h
  simp only [Prod.mk.injEq] at h
  rw [h.1]
  exact Nat.le_refl _
 | x :: r,o,out,h=>by
  unfold iy at h
  split at h
  ·cases h
  ·split at h
   ·have:=yB r _ _ h
    simp at this
    omega
   ·split at h
    ·cases h
    ·have:=yB r _ _ h
     rw [qX] at this
     omega
theorem OB {x:Px} (h:jy x = true) (h0:¬ x.len = 0):3≤x.len∧x.len≤258∧1≤x.dist∧x.dist≤32768:=by
 unfold jy at h
 rw [if_neg h0] at h
 simp only [Bool.and_eq_true,decide_eq_true_eq] at h
 exact ⟨h.1,h.2.1,h.2.2.1,h.2.2.2.1⟩
theorem KI {b:List UInt8} {mo:Int}:∀ (l:List Px) (s:Ws) (o out:List UInt8) (f:Nat),Gd s→iy l o = (out,0)→Agr b (iY (l.foldl pxW s) lcL flL 256)→l.length < f→(out.length:Int)≤mo →
  F6 b mo Qh OA f s.k o = .ok () (iY (l.foldl pxW s) lcL flL 256).k out
 | [],s,o,out,f,hs,he,ha,hf,hm=>by
  obtain ⟨f,rfl⟩:∃ g,f = g + 1:=⟨f - 1,by simp at hf;omega⟩
  unfold iy at he
  simp only [Prod.mk.injEq] at he
  obtain ⟨rfl,_⟩:=he
  have h1:=F8 (o:=o) hs (by omega) ha
  unfold F6
  rw [dW h1]
  rfl
 | x :: r,s,o,out,f,hs,he,ha,hf,hm=>by
  obtain ⟨f,rfl⟩:∃ g,f = g + 1:=⟨f - 1,by simp at hf;omega⟩
  have hf':r.length < f:=by simp at hf;omega
  have hmay:jy x = true:=by
   unfold iy at he
   split at he
   ·cases he
   ·rename_i h;simpa using h
  unfold iy at he
  rw [if_neg (by simp [hmay])] at he
  obtain ⟨g1,g2⟩:=Qn (x:=x) hs
  obtain ⟨g3,g4⟩:=F9 r g1
  have ha':Agr b (iY (r.foldl pxW (pxW s x)) lcL flL 256):=ha
  have hax:=Agr.ext (g4.trans (pX g3).2) ha'
  show F6 b mo Qh OA (f + 1) s.k o = .ok () (iY (r.foldl pxW (pxW s x)) lcL flL 256).k out
  unfold F6
  by_cases h0:x.len = 0
  ·rw [if_pos h0] at he
   have ih:=KI r (pxW s x) _ _ f g1 he ha' hf' hm
   have hlen:=yB _ _ _ he
   have hx:pxW s x = iY s lcL flL x.byte.toNat:=by unfold pxW;rw [if_pos h0]
   rw [hx] at hax ih ⊢
   have hb:=x.byte.toNat_lt
   have hb2:x.byte.toNat < 256:=hb
   rw [dW (F8 (o:=o) hs (by omega) hax)]
   rw [if_neg (by omega),if_pos hb2]
   have ht:F5 mo (UInt8.ofNat x.byte.toNat) (iY s lcL flL x.byte.toNat).k o = .ok () (iY s lcL flL x.byte.toNat).k (o ++ [x.byte]):=by
    unfold F5
    simp at hlen
    rw [if_pos (by omega)]
    simp
   rw [dW ht]
   exact ih
  ·rw [if_neg h0] at he
   obtain ⟨m1,m2,m3,m4⟩:=OB hmay h0
   have hd:¬ (o.length:Int) < x.dist:=by
    intro h
    rw [if_pos h] at he
    cases he
   rw [if_neg hd] at he
   have ih:=KI r (pxW s x) _ _ f g1 he ha' hf' hm
   have hlen:=yB _ _ _ he
   have hx:pxW s x = bI (iY (bI (iY s lcL flL (lenOf x.len.toNat).1) (x.len - ((lenOf x.len.toNat).2.1:Nat)) (lenOf x.len.toNat).2.2) dcL flD (bG x.dist.toNat).1) (x.dist - ((bG x.dist.toNat).2.1:Nat)) (bG x.dist.toNat).2.2:=by unfold pxW;rw [if_neg h0]
   rw [hx] at hax ih ⊢
   obtain ⟨n1,n2,n3,n4,n5⟩:=nU x.len.toNat (by omega) (by omega)
   obtain ⟨t1,t2⟩:=TR x.len.toNat (by omega) (by omega)
   obtain ⟨d1,d2,d3,d4⟩:=jL (n:=x.dist.toNat) (by omega) (by omega)
   obtain ⟨u1,u2⟩:=TS (n:=x.dist.toNat) (by omega) (by omega)
   generalize lenOf x.len.toNat = LO at *
   obtain ⟨ls,lb,lx⟩:=LO
   generalize bG x.dist.toNat = DO at *
   obtain ⟨ds,db,dx⟩:=DO
   simp only at n1 n2 n3 n4 n5 t1 t2 d1 d2 d3 d4 u1 u2 hax ih ⊢
   obtain ⟨a1,b1⟩:=pX (cs:=lcL) (ls:=flL) (y:=ls) hs
   obtain ⟨a2,b2,_⟩:=fO (x:=x.len - (lb:Nat)) a1 lx
   obtain ⟨a3,b3⟩:=pX (cs:=dcL) (ls:=flD) (y:=ds) a2
   obtain ⟨a4,b4,_⟩:=fO (x:=x.dist - (db:Nat)) a3 dx
   have x3:=Agr.ext b4 hax
   have x2:=Agr.ext b3 x3
   have x1:=Agr.ext b2 x2
   rw [dW (F8 (o:=o) hs (by omega) x1),if_neg (by omega),if_neg (by omega)]
   have r1:=qW (o:=o) a1 x2
   have r2:=TQ (o:=o) a2 (by omega) x3
   have r3:=qW (o:=o) a3 hax
   generalize bI (iY (bI (iY s lcL flL ls) (x.len - (lb:Nat)) lx) dcL flD ds) (x.dist - (db:Nat)) dx = s4 at *
   generalize iY (bI (iY s lcL flL ls) (x.len - (lb:Nat)) lx) dcL flD ds = s3 at *
   generalize bI (iY s lcL flL ls) (x.len - (lb:Nat)) lx = s2 at *
   generalize iY s lcL flL ls = s1 at *
   have q1:(x.len - (lb:Nat)) % 2 ^ lx = x.len - (lb:Nat):=by
    have:(((2:Nat) ^ lx:Nat):Int) = 2 ^ lx:=by push_cast;rfl
    rw [← this]
    exact Int.emod_eq_of_lt (by omega) (by omega)
   have q2:(x.dist - (db:Nat)) % 2 ^ dx = x.dist - (db:Nat):=by
    have:(((2:Nat) ^ dx:Nat):Int) = 2 ^ dx:=by push_cast;rfl
    rw [← this]
    exact Int.emod_eq_of_lt (by omega) (by omega)
   rw [q1] at r1
   rw [q2] at r3
   have afn:Wq b mo OA ls s1.k o = .ok () s4.k (iE x.dist.toNat x.len.toNat o):=by
    unfold Wq
    rw [if_neg (by omega),t2,dW r1,dW r2,if_neg (by omega),u2,dW r3,t1,u1]
    rw [show db + (x.dist - (db:Nat)).toNat = x.dist.toNat by omega,show ((lb:Nat) + (x.len - (lb:Nat)):Int).toNat = x.len.toNat by omega]
    unfold Yt
    rw [if_neg (by omega)]
    exact Np _ _ _ (by omega)
   rw [dW afn]
   exact ih
theorem Gd.nil:Gd ⟨0,[]⟩:=⟨rfl,fun i _=>by unfold jJ;simp⟩
theorem TT {F:Nat} {b out:List UInt8} {mo:Int} {l:List Px} (he:iy l [] = (out,0)) (ha:Agr b (BX l)) (hm:(out.length:Int)≤mo) (hF:l.length < F):∃ L,F7 b mo F F 0 [] = .ok L (BX l).k out:=by
 obtain ⟨F,rfl⟩:∃ g,F = g + 1:=⟨F - 1,by omega⟩
 unfold BX at ha ⊢
 obtain ⟨a1,b1,_⟩:=fO (x:=1) Gd.nil 1
 obtain ⟨a2,b2,_⟩:=fO (x:=1) a1 2
 obtain ⟨a3,b3⟩:=F9 l a2
 have x3:=Agr.ext (pX a3).2 ha
 have x2:=Agr.ext b3 x3
 have x1:=Agr.ext b2 x2
 have r1:=qW (o:=[]) Gd.nil x1
 have r2:=qW (o:=[]) a1 x2
 have r3:=KI (mo:=mo) l _ [] out (F + 1) a2 he ha hF hm
 have hbl:Qj b mo (F + 1) 0 [] = .ok ⟨1,true,0,out.length⟩ (iY (l.foldl pxW (bI (bI ⟨0,[]⟩ 1 1) 1 2)) lcL flL 256).k out:=by
  unfold Qj
  rw [dW r1,dW r2]
  have hk:Qi b mo (F + 1) (1 % 2 ^ 2) = F6 b mo Qh OA (F + 1):=by unfold Qi;rw [if_neg (by decide),if_pos (by decide)]
  rw [hk,dW r3]
  rfl
 refine ⟨[⟨1,true,0,out.length⟩],?_⟩
 unfold F7
 rw [dW hbl,if_pos rfl]
 rfl
theorem TU {F:Nat} {b out:List UInt8} {mo:Int} {k:Nat} (h:∃ L,F7 b mo F F 0 [] = .ok L k out) (hm:(out.length:Int)≤mo):Qk F b mo = (out,(((k + 7) / 8:Nat):Int),0):=by
 obtain ⟨L,h⟩:=h
 unfold Qk
 rw [if_neg (by omega),h]
end Go.Proofs.Ytbodincpjijdiaa
namespace Go.Proofs.Ytbodincpjijdiaa
open Go.AM
theorem TV {s:Ws} {cs ls:List Int} {y:Nat} (h:gQ s) (hk:1≤s.k):(iY s cs ls y).o ≠ []:=by
 obtain ⟨h1,h2⟩:=iq (cs:=cs) (ls:=ls) (y:=y) h
 intro e
 unfold gQ at h1
 rw [e] at h1
 simp at h1
 omega
theorem Nq {l:List Px} (hm:∀ x ∈ l,jy x = true):(BX l).o ≠ []:=by
 unfold BX
 have h0:gQ ⟨0,[]⟩:=rfl
 obtain ⟨h1,h2⟩:=bV (x:=1) h0 1
 obtain ⟨h3,h4⟩:=bV (x:=1) h1 2
 obtain ⟨h5,h6⟩:=yx l _ h3 hm
 have hmono:∀ (l:List Px) (s:Ws),gQ s→(∀ x ∈ l,jy x = true)→s.k≤(l.foldl pxW s).k:=by
  intro l
  induction l with
  | nil=>intro s _ _;exact Nat.le_refl _
  | cons x l ih =>
   intro s hs hm
   obtain ⟨h1,_⟩:=FW hs (hm x (List.mem_cons_self ..))
   refine Nat.le_trans ?_ (ih (pxW s x) h1 fun y hy=>hm y (List.mem_cons_of_mem _ hy))
   unfold pxW
   split
   ·have:=(iq (cs:=lcL) (ls:=flL) (y:=x.byte.toNat) hs).2
    omega
   ·have a1:=iq (cs:=lcL) (ls:=flL) (y:=(lenOf x.len.toNat).1) hs
    have a2:=bV (x:=x.len - ((lenOf x.len.toNat).2.1:Nat)) a1.1 (lenOf x.len.toNat).2.2
    have a3:=iq (cs:=dcL) (ls:=flD) (y:=(bG x.dist.toNat).1) a2.1
    have a4:=bV (x:=x.dist - ((bG x.dist.toNat).2.1:Nat)) a3.1 (bG x.dist.toNat).2.2
    have b1:=a1.2;have b2:=a2.2;have b3:=a3.2;have b4:=a4.2
    omega
 have:=hmono l _ h3 hm
 exact TV h5 (by omega)
theorem Nr {H:AM.Heap} {o:Nat} {l:List Int} (h:H[o]? = some (some (flO l))):gq H (.sl o 0 l.length 0) = some (.pi .i64 l):=by
 simp [gq,live,h,flO,iw]
theorem afo:qB X 88 [] = some (.agg (.pc [.ro 0 .pn 0,.int .i64 0])):=by kernel_rfl
def fiX (l:List Px) (fr:AM.Frame) (E:AM.Heap):Prop:=∃ a g ob,au fr 2 = .sl a 0 (iF l).1.length g∧au fr 3 = .int .i64 (iF l).2∧E[a]? = some (some ob)∧Rw (.pb (iF l).1) g ob
section
variable {c:Nat} {l:List Px}
theorem KJ {m:Nat} (hl:l.length≤2000):∃ code,Try.f42.body = some code∧aj (jV (fiX l)) X (evT X) 42 m code [(0,.ro c (.pr 3 (l.map pxR)) 1)] []:=by
 refine ⟨_,rfl,?_⟩
 obtain ⟨obE,hwE,hEx⟩:=OC (H:=[some (⟨.pb [],0,none,0,true,false,0⟩:AM.Obj)]) (a:=.ro c (.pr 3 (l.map pxR)) 1) (l:=l) rfl hl
 have hmay:=Bo (l:=l) (o:=[])
 unfold fiX iF
 generalize hex:iy l [] = r at *
 obtain ⟨o,e⟩:=r
 simp only at hEx hmay ⊢
 apply aj.seq (fr':=[(0,.ro c (.pr 3 (l.map pxR)) 1)]) (H':=[some (⟨.pb [],0,none,0,true,false,0⟩:AM.Obj)])
 ·generalize l.map pxR = R at *
  (refine ⟨0,?_⟩;simp (maxSteps:=2000000) -implicitDefEqProofs [-getElem?_pos,go_sem,eqV,ah,ak,rowOf,oP])
 apply aj.assoc
 apply aj.seq (fr':=[(0,.ro c (.pr 3 (l.map pxR)) 1),(5,.int .i64 e)]) (H':=[some (⟨.pb [],0,none,0,true,false,0⟩:AM.Obj),some obE])
 ·simp only [List.length_singleton,List.singleton_append] at hEx
  generalize l.map pxR = R at *
  generalize o.length = K at *
  (refine ⟨0,?_⟩;simp (maxSteps:=2000000) -implicitDefEqProofs [-getElem?_pos,go_sem,eqV,ah,hEx,ak])
 apply aj.assoc
 by_cases he:¬ e = 0
 ·have heb:(e != 0) = true:=by simpa using he
  rw [if_pos he]
  refine aj.of (o:=⟨.ret,[(2,.sl 2 0 0 0),(3,.int .i64 e)],[some (⟨.pb [],0,none,0,true,false,0⟩:AM.Obj),some obE,some (⟨.pb [],0,none,0,true,false,0⟩:AM.Obj)]⟩) ?_ ⟨rfl,2,0,_,rfl,rfl,rfl,⟨rfl,rfl,rfl,rfl,rfl⟩⟩
  apply Run.seq (fr':=[(0,.ro c (.pr 3 (l.map pxR)) 1),(5,.int .i64 e),(24,.bool true)]) (H':=[some (⟨.pb [],0,none,0,true,false,0⟩:AM.Obj),some obE])
  ·generalize l.map pxR = R at *
   (refine ⟨0,?_⟩;simp (maxSteps:=2000000) -implicitDefEqProofs [-getElem?_pos,go_sem,eqV,ah,he,heb])
  refine Run.bH ?_ (by simp)
  refine Run.cond (d:=true) (by simp [aC,au]) ?_
  apply Run.seq (fr':=[(2,.sl 2 0 0 0),(3,.int .i64 e)]) (H':=[some (⟨.pb [],0,none,0,true,false,0⟩:AM.Obj),some obE,some (⟨.pb [],0,none,0,true,false,0⟩:AM.Obj)])
  ·generalize l.map pxR = R at *
   (refine ⟨0,?_⟩;simp (maxSteps:=2000000) -implicitDefEqProofs [-getElem?_pos,go_sem,eqV,ah,ak,rowOf,oP])
  ·exact ⟨0,rfl⟩
 have he:e = 0:=Classical.not_not.1 he
 subst he
 rw [if_neg (by simp)]
 simp only
 have hm:=hmay rfl
 apply aj.seq (fr':=[(0,.ro c (.pr 3 (l.map pxR)) 1),(5,.int .i64 0),(24,.bool false)]) (H':=[some (⟨.pb [],0,none,0,true,false,0⟩:AM.Obj),some obE])
 ·generalize l.map pxR = R at *
  (refine ⟨0,?_⟩;simp (maxSteps:=2000000) -implicitDefEqProofs [-getElem?_pos,go_sem,eqV,ah])
 apply aj.seq (fr':=[(0,.ro c (.pr 3 (l.map pxR)) 1),(5,.int .i64 0),(24,.bool false)]) (H':=[some (⟨.pb [],0,none,0,true,false,0⟩:AM.Obj),some obE])
 ·exact Run.cond (d:=false) (by simp [aC,au]) ⟨0,rfl⟩
 have hF:=afp [some (⟨.pb [],0,none,0,true,false,0⟩:AM.Obj),some obE]
 have hC1:=Ns (H:=[some (⟨.pb [],0,none,0,true,false,0⟩:AM.Obj),some obE,some (flO flL),some (flO flD)]) (a:=.sl 2 0 288 0) (l:=flL) (by have:=Nr (H:=[some (⟨.pb [],0,none,0,true,false,0⟩:AM.Obj),some obE,some (flO flL),some (flO flD)]) (o:=2) (l:=flL) rfl;rwa [jc] at this) Wx
 have hC2:=Ns (H:=[some (⟨.pb [],0,none,0,true,false,0⟩:AM.Obj),some obE,some (flO flL),some (flO flD),dD 288 lcL]) (a:=.sl 3 0 32 0) (l:=flD) (by have:=Nr (H:=[some (⟨.pb [],0,none,0,true,false,0⟩:AM.Obj),some obE,some (flO flL),some (flO flD),dD 288 lcL]) (o:=3) (l:=flD) rfl;rwa [pY] at this) Wy
 rw [jc] at hC1
 rw [pY] at hC2
 simp only [List.length_cons,List.length_nil,List.cons_append,List.nil_append] at hF hC1 hC2
 change evT X _ _ _ = some (_,[_,_,_,_,dD 288 lcL]) at hC1
 change evT X _ _ _ = some (_,[_,_,_,_,_,dD 32 dcL]) at hC2
 have hV:FxV [some (⟨.pb [],0,none,0,true,false,0⟩:AM.Obj),some obE,some (flO flL),some (flO flD),dD 288 lcL,dD 32 dcL,some (fE ⟨0,[]⟩ (.ro 0 .pn 0) 0)] 2 3 4 5 6 none ⟨0,[]⟩:=⟨rfl,rfl,rfl,rfl,⟨⟨_,0,.inl rfl,rfl,rfl,0,.inl rfl,rfl⟩,fun a h=>by cases h⟩,by omega,fun a h=>(by cases h),rfl⟩
 generalize dD 288 lcL = r8 at *
 generalize dD 32 dcL = r10 at *
 generalize some (flO flL) = r6 at *
 generalize some (flO flD) = r7 at *
 generalize some (⟨.pb [],0,none,0,true,false,0⟩:AM.Obj) = r0 at *
 apply aj.seq (fr':=[(0,.ro c (.pr 3 (l.map pxR)) 1),(6,.sl 2 0 288 0),(7,.sl 3 0 32 0)]) (H':=[r0,some obE,r6,r7])
 ·generalize l.map pxR = R at *
  (refine ⟨0,?_⟩;simp (maxSteps:=2000000) -implicitDefEqProofs [-getElem?_pos,go_sem,eqV,ah,hF,ak])
 apply aj.seq (fr':=[(0,.ro c (.pr 3 (l.map pxR)) 1),(6,.sl 2 0 288 0),(7,.sl 3 0 32 0),(8,.sl 4 0 288 0)]) (H':=[r0,some obE,r6,r7,r8])
 ·generalize l.map pxR = R at *
  (refine ⟨0,?_⟩;simp (maxSteps:=2000000) -implicitDefEqProofs [-getElem?_pos,go_sem,eqV,ah,hC1,ak])
 apply aj.seq (fr':=[(0,.ro c (.pr 3 (l.map pxR)) 1),(6,.sl 2 0 288 0),(7,.sl 3 0 32 0),(8,.sl 4 0 288 0),(10,.sl 5 0 32 0)]) (H':=[r0,some obE,r6,r7,r8,r10])
 ·generalize l.map pxR = R at *
  (refine ⟨0,?_⟩;simp (maxSteps:=2000000) -implicitDefEqProofs [-getElem?_pos,go_sem,eqV,ah,hC2,ak])
 apply aj.seq (fr':=[(0,.ro c (.pr 3 (l.map pxR)) 1),(6,.sl 2 0 288 0),(7,.sl 3 0 32 0),(8,.sl 4 0 288 0),(10,.sl 5 0 32 0),(12,.ptr 6 0 0 0)]) (H':=[r0,some obE,r6,r7,r8,r10,some (fE ⟨0,[]⟩ (.ro 0 .pn 0) 0)])
 ·simp only [fE]
  generalize l.map pxR = R at *
  (refine ⟨0,?_⟩;simp (maxSteps:=2000000) -implicitDefEqProofs [-getElem?_pos,go_sem,eqV,ah,afo,ak])
 clear hC1 hC2 hF hEx
 generalize [r0,some obE,r6,r7,r8,r10,some (fE ⟨0,[]⟩ (.ro 0 .pn 0) 0)] = E0 at *
 obtain ⟨E1,oa1,g1,g2,g3⟩:=mV (x:=1) (I:=1) (n:=1) rfl hV.wr hV.ok (by simp) (by omega)
 have hV1:=hV.step g2 g3 (bV hV.ok 1).1
 apply aj.seq (fr':=[(0,.ro c (.pr 3 (l.map pxR)) 1),(6,.sl 2 0 288 0),(7,.sl 3 0 32 0),(8,.sl 4 0 288 0),(10,.sl 5 0 32 0),(12,.ptr 6 0 0 0)]) (H':=E1)
 ·generalize l.map pxR = R at *
  (refine ⟨0,?_⟩;simp (maxSteps:=2000000) -implicitDefEqProofs [-getElem?_pos,go_sem,eqV,ah,g1])
 have k1:=(bV (x:=1) hV.ok 1).2
 obtain ⟨E2,oa2,g4,g5,g6⟩:=mV (x:=1) (I:=2) (n:=2) rfl hV1.wr hV1.ok (by rw [k1];simp) (by omega)
 have hV2:=hV1.step g5 g6 (bV hV1.ok 2).1
 have k2:=(bV (x:=1) hV1.ok 2).2
 apply aj.seq (fr':=[(0,.ro c (.pr 3 (l.map pxR)) 1),(6,.sl 2 0 288 0),(7,.sl 3 0 32 0),(8,.sl 4 0 288 0),(10,.sl 5 0 32 0),(12,.ptr 6 0 0 0)]) (H':=E2)
 ·generalize l.map pxR = R at *
  (refine ⟨0,?_⟩;simp (maxSteps:=2000000) -implicitDefEqProofs [-getElem?_pos,go_sem,eqV,ah,g4])
 apply aj.assoc
 apply aj.seq (fr':=mQ 2 3 4 5 6 c l 0) (H':=E2)
 ·have hll:(l.map pxR).length = l.length:=by simp
  simp only [mQ]
  generalize l.map pxR = R at *
  generalize l.length = N at *
  (refine ⟨0,?_⟩;simp (maxSteps:=2000000) -implicitDefEqProofs [-getElem?_pos,go_sem,eqV,ah,hll])
 have hk3:(bI (bI ⟨0,[]⟩ 1 1) 1 2).k≤100:=by rw [k2,k1];simp
 apply aj.andThen (piece (TJ (m:=m) (c:=c) hV2 hk3 hl hm) _ rfl)
 rintro fr E3 ⟨oa3,rfl,hV3⟩
 have hk4:=(yx l _ hV2.ok hm).2
 obtain ⟨E4,oa4,hV4,afq⟩:=Wi (m:=m) (c:=c) (i:=l.length) (l:=l) (tl:=[(49,.bool false)]) hV3 (by omega)
 apply aj.seq (piece afq _ rfl)
 have hne:=Nq hm
 unfold BX at hne ⊢
 obtain ⟨a,g,ob,q1,q2,afr⟩:=Wj (m:=m) hV4 hne
 generalize (iY (l.foldl pxW (bI (bI ⟨0,[]⟩ 1 1) 1 2)) lcL flL 256).o = B at *
 apply aj.seq (piece afr _ rfl)
 exact aj.of (o:=⟨.ret,[(2,.sl a 0 B.length g),(3,.int .i64 0)],E4⟩) ⟨0,rfl⟩ ⟨rfl,a,g,ob,rfl,rfl,q1,q2⟩
theorem OD {H:AM.Heap} {a:AV} (ha:gq H a = some (.pr 3 (l.map pxR))) (hl:l.length≤2000):∃ ob,Rw (.pb (iF l).1) 0 ob∧evT X 42 [a] H = some (.tup [.sl H.length 0 (iF l).1.length 0,.int .i64 (iF l).2],H ++ [some ob]):=by
 obtain ⟨c,x,hx⟩:=dS (C:=X) (f:=42) (i:=0) rfl ha (bU 1)
 obtain ⟨code,hc,⟨out,⟨ho,a2,g,ob,h2,h3,h4,hw⟩,hrun⟩⟩:=KJ (m:=0) (c:=c) (l:=l) hl
 obtain ⟨ob',q1,q2⟩:=Ev1.wZ (C:=X) (H:=H) (bn X) (n:=(iF l).1.length) (l:=(iF l).1) (rest:=[.int .i64 (iF l).2]) Try.func42 hc hx rfl (by simp [bW]) rfl rfl rfl (by
  rw [YB]
  refine ⟨out,⟨ho,a2,g,ob,?_,h4,hw⟩,hrun⟩
  show aQ X out.fr out.H [.tmp 2,.tmp 3] = _
  simp [aQ,h2,h3])
 exact ⟨ob',q1,dA (by simpa [aO,fU] using q2)⟩
end
end Go.Proofs.Ytbodincpjijdiaa
namespace Go.Proofs.Ytbodincpjijdiaa
open Go.AM
def tV (b:List UInt8):Ws:=bI (bI ⟨8,(bI ⟨0,[]⟩ 1 3).o⟩ (b.length:Nat) 16) (-(b.length:Int) - 1) 16
def fP (b:List UInt8):List UInt8:=(tV b).o ++ b
theorem f13:(bI ⟨0,[]⟩ 1 3) = ⟨3,[1]⟩:=by kernel_rfl
theorem afs:qB X 88 [] = some (.agg (.pc [.ro 0 .pn 0,.int .i64 0])):=by kernel_rfl
theorem WA:bJ X 5 = .pb []:=by kernel_rfl
theorem YC {L:Nat} (h:L≤65535):IntKind.i64.wrap ((AM.bits .i64 (if IntKind.i64.signed = true then -1 else 9223372036854775807) ^^^ AM.bits .i64 (L:Int)).toNat:Nat) = -(L:Int) - 1:=by
 have e1:AM.bits .i64 (if IntKind.i64.signed = true then -1 else 9223372036854775807) = BitVec.allOnes 64:=by kernel_rfl
 have e2:(BitVec.ofInt 64 (L:Int)).toNat = L:=by
  rw [BitVec.toNat_ofInt]
  show ((L:Int) % 18446744073709551616).toNat = L
  omega
 have e3:(AM.bits .i64 (if IntKind.i64.signed = true then -1 else 9223372036854775807) ^^^ AM.bits .i64 (L:Int)).toNat = 18446744073709551615 - L:=by
  rw [e1]
  show (BitVec.allOnes 64 ^^^ BitVec.ofInt 64 (L:Int)).toNat = _
  rw [BitVec.allOnes_xor,BitVec.toNat_not,e2]
 rw [e3]
 have e4:((18446744073709551615 - L:Nat):Int) = 18446744073709551615 - (L:Int):=by omega
 rw [e4]
 unfold IntKind.wrap
 simp [IntKind.bits,IntKind.signed]
 omega
section
variable {c:Nat} {b:List UInt8} {E:AM.Heap} {oa:Option Nat} {s:Ws}
def rU (c:Nat) (b:List UInt8):AM.Frame:=[(0,.ro c (.pb b) 1),(3,.ptr 1 0 0 0),(4,.int .i64 (b.length:Nat)),(5,.int .i64 1)]
theorem YD {m:Nat} (h:WrV 0 E 1 oa s) (hne:s.o ≠ []) (hl:s.o.length≤1000000):∃ E',WrV 0 E' 1 oa ⟨s.o.length * 8,s.o⟩∧∃ code,((Try.f44.body).bind (aF [1,1,0,0,0,1,1,1,1,0])) = some code∧Run X (evT X) 44 m code (rU c b) E ⟨.normal,rU c b,E'⟩:=by
 obtain ⟨⟨vo,τ,a1,h0,ho⟩,hn⟩:=id h
 cases oa with
 | none=>exact absurd ho.1 hne
 | some a =>
  refine ⟨AM.upd E 1 (some (fE ⟨s.o.length * 8,s.o⟩ vo τ)),WrV.set hn a1 (eY h0) ho,_,rfl,?_⟩
  obtain ⟨g,τ2,ob,hτ2,rfl,h3,h4⟩:=ho
  have hg:=h4.g
  have w1:IntKind.i64.wrap ((s.o.length:Int) * 8) = ((s.o.length * 8:Nat):Int):=by rw [wrap_i64 (by omega) (by omega)];omega
  simp only [fE,rU] at h0 ⊢
  generalize s.o.length * 8 = k8 at *
  generalize s.o.length = N at *
  generalize b.length = L at *
  (refine ⟨0,?_⟩;simp (maxSteps:=2000000) -implicitDefEqProofs [-getElem?_pos,go_sem,eqV,ah,h0,h3,hg,w1])
theorem WB {m:Nat} (h:WrV 0 E 1 oa s) (hne:s.o ≠ []) (hl:s.o.length≤1000000):∃ E',WrV 0 E' 1 oa ⟨s.o.length * 8,s.o⟩∧∃ code,((Try.f44.body).bind (aF [1,1,0,0,0,1,1,1,1,1,1,1,1,0])) = some code∧Run X (evT X) 44 m code (rU c b) E ⟨.normal,rU c b,E'⟩:=by
 obtain ⟨⟨vo,τ,a1,h0,ho⟩,hn⟩:=id h
 cases oa with
 | none=>exact absurd ho.1 hne
 | some a =>
  refine ⟨AM.upd E 1 (some (fE ⟨s.o.length * 8,s.o⟩ vo τ)),WrV.set hn a1 (eY h0) ho,_,rfl,?_⟩
  obtain ⟨g,τ2,ob,hτ2,rfl,h3,h4⟩:=ho
  have hg:=h4.g
  have w1:IntKind.i64.wrap ((s.o.length:Int) * 8) = ((s.o.length * 8:Nat):Int):=by rw [wrap_i64 (by omega) (by omega)];omega
  simp only [fE,rU] at h0 ⊢
  generalize s.o.length * 8 = k8 at *
  generalize s.o.length = N at *
  generalize b.length = L at *
  (refine ⟨0,?_⟩;simp (maxSteps:=2000000) -implicitDefEqProofs [-getElem?_pos,go_sem,eqV,ah,h0,h3,hg,w1])
theorem WC {m:Nat} (h:WrV 0 E 1 oa s) (hne:s.o ≠ []) (hl:s.o.length≤1000000) (hb:b.length≤65535):∃ E',WrV 0 E' 1 oa ⟨s.k,s.o ++ b⟩∧∃ code,((Try.f44.body).bind (aF [1,1,0,0,0,1,1,1,1,1,1,1,0])) = some code∧Run X (evT X) 44 m code (rU c b) E ⟨.normal,rU c b,E'⟩:=by
 obtain ⟨⟨vo,τ,a1,h0,ho⟩,hn⟩:=id h
 cases oa with
 | none=>exact absurd ho.1 hne
 | some a =>
  obtain ⟨g,τ2,ob,hτ2,rfl,h3,h4⟩:=ho
  obtain ⟨ob',w1,w2⟩:=BA (C:=X) (T:=22) (e:=5) (src:=.ro (if c = 0 then 0 else 2) (.pb b) 1) (m:=b) kK rV kL bytes5 qC h3 h4 (.inl (by simp [gU,jF,kM])) (by omega)
  have h0':(upd E a (some ob'))[1]? = some (some (fE s (.sl a 0 s.o.length g) τ)):=zF h0 (hn a rfl)
  refine ⟨AM.upd (upd E a (some ob')) 1 (some (fE ⟨s.k,s.o ++ b⟩ (.sl a 0 (s.o.length + b.length) (g + 1)) τ)),WrV.set hn a1 (eY h0') ⟨g + 1,τ2,ob',hτ2,by simp,setAt h3,w1⟩,_,rfl,?_⟩
  have ht:b.take b.length = b:=List.take_length
  have hz:iw (.pb b) 0 b.length = some (.pb b):=by simp [iw]
  simp only [fE,rU] at h0 h0' ⊢
  generalize upd E a (some ob') = E1 at *
  generalize s.o.length + b.length = N2 at *
  generalize s.o.length = N at *
  generalize hL:b.length = L at *
  (refine ⟨0,?_⟩;simp (maxSteps:=2000000) -implicitDefEqProofs [-getElem?_pos,go_sem,eqV,ah,h0,h0',w2,jq,bound,iw,hL,ht,hz])
theorem OE (s:Ws) (x:Int):s.o.length≤(dR s x).o.length:=by
 unfold dR
 simp only [List.length_set]
 split <;> simp
theorem um (s:Ws) (x:Int):∀ n,s.o.length≤(bI s x n).o.length
 | 0=>Nat.le_refl _
 | n + 1=>Nat.le_trans (um s x n) (OE _ _)
theorem Gg {m:Nat} (hb:b.length≤65535):∃ code,Try.f44.body = some code∧aj (jV fun fr E=>∃ a g ob,au fr 2 = .sl a 0 (fP b).length g∧E[a]? = some (some ob)∧Rw (.pb (fP b)) g ob) X (evT X) 44 m code [(0,.ro c (.pb b) 1)] []:=by
 refine ⟨_,rfl,?_⟩
 apply aj.seq (fr':=[(0,.ro c (.pb b) 1)]) (H':=[some (⟨.pb [],0,none,0,true,false,0⟩:AM.Obj)])
 ·(refine ⟨0,?_⟩;simp (maxSteps:=2000000) -implicitDefEqProofs [-getElem?_pos,go_sem,eqV,ah,ak,rowOf,WA])
 apply aj.seq (fr':=[(0,.ro c (.pb b) 1),(3,.ptr 1 0 0 0)]) (H':=[some (⟨.pb [],0,none,0,true,false,0⟩:AM.Obj),some (fE ⟨0,[]⟩ (.ro 0 .pn 0) 0)])
 ·simp only [fE]
  (refine ⟨0,?_⟩;simp (maxSteps:=2000000) -implicitDefEqProofs [-getElem?_pos,go_sem,eqV,ah,afs,ak])
 have hV:WrV 0 [some (⟨.pb [],0,none,0,true,false,0⟩:AM.Obj),some (fE ⟨0,[]⟩ (.ro 0 .pn 0) 0)] 1 none ⟨0,[]⟩:=⟨⟨_,0,.inl rfl,rfl,rfl,0,.inl rfl,rfl⟩,fun a h=>by cases h⟩
 generalize [some (⟨.pb [],0,none,0,true,false,0⟩:AM.Obj),some (fE ⟨0,[]⟩ (.ro 0 .pn 0) 0)] = E0 at *
 have hI:(b.length:Int)≤65535:=by omega
 refine aj.blk ?_ (fun o ho=>by rw [ho.1];simp)
 refine aj.kJ (I:=fun k fr E=>k = 0∧fr = [(0,.ro c (.pb b) 1),(3,.ptr 1 0 0 0)]∧E = E0) ?_ (k:=0) ⟨rfl,rfl,rfl⟩
 rintro k fr E ⟨rfl,rfl,rfl⟩
 suffices hT:aj (jV fun fr E=>∃ a g ob,au fr 2 = .sl a 0 (fP b).length g∧E[a]? = some (some ob)∧Rw (.pb (fP b)) g ob) X (evT X) 44 m _ [(0,.ro c (.pb b) 1),(3,.ptr 1 0 0 0)] E from hT.mono fun o ho=>.inr ⟨by rw [ho.1];simp,ho⟩
 refine aj.blk ?_ (fun o ho=>by rw [ho.1];simp)
 apply aj.seq (fr':=[(0,.ro c (.pb b) 1),(3,.ptr 1 0 0 0),(4,.int .i64 (b.length:Nat))]) (H':=E)
 ·have hI2:¬ (65535:Int) < (b.length:Int):=by omega
  have hI3:¬ 65535 < b.length:=by omega
  generalize hL:b.length = L at *
  (refine ⟨0,?_⟩;simp (maxSteps:=2000000) -implicitDefEqProofs [-getElem?_pos,go_sem,eqV,ah,jf,ak,hI,hI2,hI3,hL])
 apply aj.seq (fr':=[(0,.ro c (.pb b) 1),(3,.ptr 1 0 0 0),(4,.int .i64 (b.length:Nat)),(5,.int .i64 0)]) (H':=E)
 ·generalize hL:b.length = L at *
  (refine ⟨0,?_⟩;simp (maxSteps:=2000000) -implicitDefEqProofs [-getElem?_pos,go_sem,eqV,ah,ak])
 apply aj.assoc
 apply aj.seq (fr':=[(0,.ro c (.pb b) 1),(3,.ptr 1 0 0 0),(4,.int .i64 (b.length:Nat)),(5,.int .i64 0),(14,.bool true)]) (H':=E)
 ·generalize hL:b.length = L at *
  (refine ⟨0,?_⟩;simp (maxSteps:=2000000) -implicitDefEqProofs [-getElem?_pos,go_sem,eqV,ah,hL])
 apply aj.seq (fr':=rU c b) (H':=E)
 ·refine Run.cond (d:=true) (by simp [aC,au]) ?_
  simp only [rU]
  generalize hL:b.length = L at *
  (refine ⟨0,?_⟩;simp (maxSteps:=2000000) -implicitDefEqProofs [-getElem?_pos,go_sem,eqV,ah,ak])
 obtain ⟨E1,oa1,g1,g2,g3⟩:=mV (x:=1) (I:=3) (n:=3) rfl hV rfl (by simp) (by omega)
 apply aj.seq (fr':=rU c b) (H':=E1)
 ·simp only [rU]
  generalize hL:b.length = L at *
  (refine ⟨0,?_⟩;simp (maxSteps:=2000000) -implicitDefEqProofs [-getElem?_pos,go_sem,eqV,ah,g1])
 have ho1:(bI ⟨0,[]⟩ 1 3).o = [1]:=by rw [f13]
 obtain ⟨E2,hV2,hr7⟩:=YD (m:=m) (c:=c) (b:=b) g2 (by rw [ho1];simp) (by rw [ho1];simp)
 apply aj.seq (piece hr7 _ rfl)
 have e8:(bI ⟨0,[]⟩ 1 3).o.length * 8 = 8:=by rw [ho1];rfl
 rw [e8] at hV2
 have hok2:gQ ⟨8,(bI ⟨0,[]⟩ 1 3).o⟩:=by unfold gQ;rw [ho1];rfl
 obtain ⟨E3,oa3,g4,g5,g6⟩:=mV (x:=(b.length:Nat)) (I:=16) (n:=16) rfl hV2 hok2 (by simp) (by omega)
 have k3:=bV (x:=(b.length:Nat)) hok2 16
 apply aj.seq (fr':=rU c b) (H':=E3)
 ·simp only [rU]
  generalize hL:b.length = L at *
  (refine ⟨0,?_⟩;simp (maxSteps:=2000000) -implicitDefEqProofs [-getElem?_pos,go_sem,eqV,ah,g4])
 obtain ⟨E4,oa4,g7,g8,g9⟩:=mV (x:=-(b.length:Int) - 1) (I:=16) (n:=16) rfl g5 k3.1 (by rw [k3.2];simp) (by omega)
 have k4:=bV (x:=-(b.length:Int) - 1) k3.1 16
 apply aj.seq (fr':=rU c b) (H':=E4)
 ·simp only [rU]
  have wx:IntKind.i64.wrap (-(b.length:Int) - 1) = -(b.length:Int) - 1:=by rw [wrap_i64 (by omega) (by omega)]
  have wx2:IntKind.i64.wrap (-1 - (b.length:Int)) = -(b.length:Int) - 1:=by rw [wrap_i64 (by omega) (by omega)];omega
  have wn:=YC hb
  simp only [go_sem] at wn
  generalize hL:b.length = L at *
  (refine ⟨0,?_⟩;simp (maxSteps:=2000000) -implicitDefEqProofs [-getElem?_pos,go_sem,eqV,ah,g7,wn])
 have YE:1≤(tV b).o.length:=by
  have m1:=um ⟨8,(bI ⟨0,[]⟩ 1 3).o⟩ (b.length:Nat) 16
  have m2:=um (bI ⟨8,(bI ⟨0,[]⟩ 1 3).o⟩ (b.length:Nat) 16) (-(b.length:Int) - 1) 16
  have m0:(bI ⟨0,[]⟩ 1 3).o.length = 1:=by rw [ho1];rfl
  unfold tV
  simp only at m1 m2
  omega
 have hk5:(tV b).o.length = 5:=by
  have:=k4.1
  unfold gQ at this
  unfold tV
  rw [this,k4.2,k3.2]
  rfl
 have hne:(tV b).o ≠ []:=fun e=>by rw [e] at YE;simp at YE
 have g8':WrV 0 E4 1 oa4 (tV b):=g8
 obtain ⟨E5,hV5,aft⟩:=WC (m:=m) (c:=c) (b:=b) g8' hne (by omega) hb
 apply aj.seq (piece aft _ rfl)
 obtain ⟨E6,hV6,afu⟩:=WB (m:=m) (c:=c) (b:=b) hV5 (by simp [hne]) (by simp;omega)
 apply aj.seq (piece afu _ rfl)
 simp only at hV6
 have FX:∃ v,∃ code,((Try.f44.body).bind (aF [1,1,0,0,0,1,1,1,1,1,1,1,1,1,0])) = some code∧Run X (evT X) 44 m code (rU c b) E6 ⟨.normal,[(0,v),(3,.ptr 1 0 0 0),(5,.int .i64 1)],E6⟩:=by
  refine ⟨.ro (if c = 0 then 0 else c) (.pb []) 1,_,rfl,?_⟩
  have hd:b.drop b.length = []:=List.drop_of_length_le (Nat.le_refl _)
  simp only [rU]
  generalize hL:b.length = L at *
  (refine ⟨0,?_⟩;simp (maxSteps:=2000000) -implicitDefEqProofs [-getElem?_pos,go_sem,eqV,ah,jq,bound,iw,hL,hd,ak])
 obtain ⟨v12,FX⟩:=FX
 apply aj.seq (piece FX _ rfl)
 apply aj.seq (fr':=[(0,v12),(3,.ptr 1 0 0 0),(58,.bool true)]) (H':=E6)
 ·(refine ⟨0,?_⟩;simp (maxSteps:=2000000) -implicitDefEqProofs [-getElem?_pos,go_sem,eqV,ah])
 refine aj.Qo (by simp [aC,au]) ?_
 obtain ⟨⟨vo,τ,a1,h0,ho⟩,hn⟩:=id hV6
 cases oa4 with
 | none=>exact absurd ho.1 (by simp [hne])
 | some a =>
  obtain ⟨g,τ2,ob,hτ2,rfl,h3,h4⟩:=ho
  have ht:τ2 = 0:=hτ2.elim id id
  have hst:(tV b).o ++ b = fP b:=rfl
  simp only [hst] at h0 h3 h4
  refine aj.of (o:=⟨.ret,[(2,.sl a 0 (fP b).length g)],E6⟩) ?_ ⟨rfl,a,g,ob,rfl,h3,⟨h4.p,h4.g,h4.row,h4.ids,by rw [h4.tg,ht]⟩⟩
  refine ⟨0,?_⟩
  simp only [fE] at h0
  generalize (fP b).length = N at *
  simp (maxSteps:=2000000) -implicitDefEqProofs [-getElem?_pos,go_sem,eqV,ah,h0,ak]
theorem KL {H:AM.Heap} {a:AV} (ha:gq H a = some (.pb b)) (hb:b.length≤65535):∃ ob,Rw (.pb (fP b)) 0 ob∧evT X 44 [a] H = some (.sl H.length 0 (fP b).length 0,H ++ [some ob]):=by
 obtain ⟨c,x,hx⟩:=dS (C:=X) (f:=44) (i:=0) rfl ha (bU 1)
 obtain ⟨code,hc,⟨out,⟨ho,a2,g,ob,h2,h4,hw⟩,hrun⟩⟩:=Gg (m:=0) (c:=c) hb
 obtain ⟨ob',q1,q2⟩:=Ev1.wZ (C:=X) (H:=H) (bn X) (n:=(fP b).length) (l:=fP b) (rest:=[]) Try.func44 hc hx rfl (by simp [bW]) rfl rfl rfl (by
  rw [YF]
  refine ⟨out,⟨ho,a2,g,ob,?_,h4,hw⟩,hrun⟩
  show aQ X out.fr out.H [.tmp 2] = _
  simp [aQ,h2])
 exact ⟨ob',q1,dA q2⟩
end
end Go.Proofs.Ytbodincpjijdiaa
