/- DJ to W1: texts of this claim, one behind the other; what each shows stands at its head. -/
import Derived.Test.YteblpjhkgdpchaaAm4
import Derived.Test.YteblpjhkgdpchaaMg2
set_option linter.unusedSimpArgs false
set_option linter.unusedVariables false
set_option maxRecDepth 100000
set_option maxHeartbeats 8000000
namespace Go.Proofs.Yteblpjhkgdpchaa
open Go.AM
section
variable {c:Nat} {b:List UInt8} {t:Nat} {H:AM.Heap} {ex:List (Nat × Nat)} {M:Pls}
theorem QV {m p:Nat} {v:AV} {L:List Pc} {E:AM.Heap} (h:PcV c b t E v L ex M) (hM:Bv M p) (hp:p < b.length) (hb:b.length≤1400) (hL:L.length≤1400) :
  ∃ code,((Try.f10.body).bind (aS [1,1,1,1,0,1,0,0,1])) = some code∧au (Goes fun fr E'=>∃ v' ex',bZ [1,3,4,5,6] fr = pO v' (p + max 1 (jl b M p).len)∧PcV c b t E' v' (L ++ [jl b M p]) ex' (rG b M p (max 1 (jl b M p).len))) X (evT X) 10 m code (pO v p ++ [(18,.bool true)]) E:=by
 refine ⟨_,rfl,?_⟩
 refine au.blk ?_ (by
  rintro o ⟨ho,_⟩
  rw [ho]
  simp)
 apply au.seq (fr':=jd v p 0 0) (H':=E)
 ·simp only [pO,jd]
  (refine ⟨0,?_⟩;simp (maxSteps:=2000000) -implicitDefEqProofs [-getElem?_pos,go_sem,eqV,aj,aC])
 apply au.andThen (piece (QW (m:=m) (v:=v) h.nt (fun y hy=>⟨(hM.2 y hy).1,by have:=(hM.2 y hy).2.1;omega,(hM.2 y hy).2.2⟩) (by omega) (by omega)) _ rfl)
 rintro fr E1 ⟨hfr,r,rfl⟩
 obtain ⟨y,hy⟩:∃ y,b[p]? = some y:=⟨_,List.getElem?_eq_getElem hp⟩
 have hN1:=h.nt.cat r
 obtain ⟨τ1,τ2,_,_,h1⟩:=hN1.bx
 obtain ⟨g,ob,rfl,ho,hw⟩:=h.row
 have ho1:(E ++ r)[2]? = some (some ob):=by rw [List.getElem?_append_left (iF ho)];exact ho
 generalize E ++ r = E1 at *
 apply au.seq (piece (TN hfr h1 hy (by omega)) _ rfl)
 have hN2:=hN1.cat [some (pcO ⟨0,0,y⟩)]
 have ho2:(E1 ++ [some (pcO ⟨0,0,y⟩)])[2]? = some (some ob):=by rw [List.getElem?_append_left (iF ho1)];exact ho1
 have hq2:(E1 ++ [some (pcO ⟨0,0,y⟩)])[E1.length]? = some (some (pcO ⟨0,0,y⟩)):=by simp
 have hlt1:=hN1.lt
 have hl1:=iF ho1
 generalize E1 ++ [some (pcO ⟨0,0,y⟩)] = E2 at *
 obtain ⟨aad,hc17,aae,QX,aaf⟩:=TP (m:=m) (p:=p) (n:=(jE b M p).1) (d:=(jE b M p).2) (v:=.sl 2 0 L.length g) hq2
 apply au.seq (fr':=aae) (H':=if 3≤(jE b M p).1 then upd E2 E1.length (some (pcO ⟨(jE b M p).1,(jE b M p).2,0⟩)) else E2)
 ·exact (Option.some.inj hc17) ▸ QX
 have h3:∃ E3,(if 3≤(jE b M p).1 then upd E2 E1.length (some (pcO ⟨(jE b M p).1,(jE b M p).2,0⟩)) else E2) = E3∧E3[E1.length]? = some (some (pcO (jl b M p)))∧(∀ j,j ≠ E1.length→E3[j]? = E2[j]?):=by
  refine ⟨_,rfl,?_,?_⟩
  ·unfold jl
   by_cases hn:3≤(jE b M p).1
   ·rw [if_pos hn,if_pos hn]
    exact setAt hq2
   ·rw [if_neg hn,if_neg hn,List.getD_eq_getElem?_getD,hy]
    exact hq2
  ·intro j hj
   split
   ·unfold upd
    rw [List.getElem?_set_ne (Ne.symm hj)]
   ·rfl
 obtain ⟨E3,hE3,hq3,hk3⟩:=h3
 rw [hE3]
 clear hE3 QX
 have hN3:NtV c b t E3 0 4 3 ex M:=hN2.keep (hk3 0 (by omega)) (hk3 4 (by omega)) (hk3 3 (by omega)) fun x hx=>hk3 x.1 (by have:=hlt1.2.2.2 x hx;omega)
 have ho3:E3[2]? = some (some ob):=by rw [hk3 2 (by omega)];exact ho2
 obtain ⟨ob',hw',hA⟩:=G7 (C:=X) (T:=22) (e:=25) (es:=3) (H:=E3) (o:=2) (m:=[pcR (jl b M p)]) (src:=.ro 1 (.pr 3 [pcR (jl b M p)]) 0) (by simp) (by simp) (by omega) (by simp) (by simp) ho3 hw rfl (by simp;omega)
 rw [List.length_map] at hA
 apply au.seq (piece (TQ aaf hq3 hA) _ rfl)
 have hq4:(upd E3 2 (some ob'))[E1.length]? = some (some (pcO (jl b M p))):=Bz hq3 (by omega)
 apply au.seq (piece (TR hq4) _ rfl)
 have hV:PcV c b t (upd E3 2 (some ob')) (.sl 2 0 (L.length + 1) (g + 1)) (L ++ [jl b M p]) ex M:=by
  have hu:∀ j,j ≠ 2→(upd E3 2 (some ob'))[j]? = E3[j]?:=fun j hj=>by unfold upd;rw [List.getElem?_set_ne (Ne.symm hj)]
  refine ⟨hN3.keep (hu 0 (by omega)) (hu 4 (by omega)) (hu 3 (by omega)) fun x hx=>hu x.1 (h.off x hx),⟨g + 1,ob',by simp,setAt ho3,by rw [List.map_append];exact hw'⟩,h.off⟩
 have hfit:=zi (M:=M) hp
 refine (piece (QY (m:=m) hV hM hfit hb) _ rfl).mono ?_
 rintro ⟨xx,fr,E'⟩ ⟨he,hfr2,ex',hV'⟩
 simp only at he hfr2 hV'
 subst hfr2
 exact ⟨he,_,ex',by simp [qN,pO,bZ,aI],hV'⟩
theorem TS:Fj X 39 = true:=by kernel_rfl
theorem QZ:dB X 25 = .pr 3 []:=by kernel_rfl
theorem G8 {m:Nat} (hb:b.length≤1400):∃ code,Try.f10.body = some code ∧
  au (nY fun fr E'=>∃ g ob,aI fr 2 = .sl 2 0 (nU b b.length [] 0).length g∧E'[2]? = some (some ob)∧Rw (.pr 3 ((nU b b.length [] 0).map pcR)) g ob) X (evT X) 10 m code [(0,.ro c (.pb b) 1)] []:=by
 refine ⟨_,rfl,?_⟩
 apply au.seq (fr':=[(1,.ptr 0 0 0 0)]) (H':=[some (bxN (.ro c (.pb b) 1) 0),some ⟨.pr 3 [],0,none,0,true,false,0⟩])
 ·simp only [bxN]
  (refine ⟨0,?_⟩;simp (maxSteps:=2000000) -implicitDefEqProofs [-getElem?_pos,go_sem,eqV,aj,aC,rowOf,QZ])
 apply au.seq (fr':=[(1,.ptr 0 0 0 0),(3,.sl 2 0 0 0)]) (H':=[some (bxN (.ro c (.pb b) 1) 0),some ⟨.pr 3 [],0,none,0,true,false,0⟩,some ⟨.pr 3 [],0,none,0,true,false,0⟩])
 ·simp only [bxN]
  (refine ⟨0,?_⟩;simp (maxSteps:=2000000) -implicitDefEqProofs [-getElem?_pos,go_sem,eqV,aj,aC,rowOf,QZ])
 apply au.seq (fr':=[(1,.ptr 0 0 0 0),(3,.sl 2 0 0 0),(4,.ptr 4 0 0 0)]) (H':=[some (bxN (.ro c (.pb b) 1) 0),some ⟨.pr 3 [],0,none,0,true,false,0⟩,some ⟨.pr 3 [],0,none,0,true,false,0⟩,some (pmO [] 0),some (bxN (.map 3 0) 0)])
 ·simp only [bxN,pmO]
  (refine ⟨0,?_⟩;simp (maxSteps:=2000000) -implicitDefEqProofs [-getElem?_pos,go_sem,eqV,aj,TS,zk,qx])
 have hV:PcV c b 1 [some (bxN (.ro c (.pb b) 1) 0),some ⟨.pr 3 [],0,none,0,true,false,0⟩,some ⟨.pr 3 [],0,none,0,true,false,0⟩,some (pmO [] 0),some (bxN (.map 3 0) 0)] (.sl 2 0 0 0) [] [] [] :=
  ⟨⟨⟨1,0,.inr rfl,.inl rfl,rfl⟩,⟨0,.inl rfl,rfl⟩,⟨0,.inl rfl,rfl⟩,trivial,by simp⟩,⟨0,⟨.pr 3 [],0,none,0,true,false,0⟩,rfl,rfl,⟨rfl,rfl,rfl,rfl,rfl⟩⟩,by simp⟩
 generalize [some (bxN (.ro c (.pb b) 1) 0),some (⟨.pr 3 [],0,none,0,true,false,0⟩:AM.Obj),some ⟨.pr 3 [],0,none,0,true,false,0⟩,some (pmO [] 0),some (bxN (.map 3 0) 0)] = E0 at *
 apply au.seq (fr':=[(1,.ptr 0 0 0 0),(3,.sl 2 0 0 0),(4,.ptr 4 0 0 0),(5,fnV)]) (H':=E0)
 ·simp only [fnV]
  (refine ⟨0,?_⟩;simp (maxSteps:=2000000) -implicitDefEqProofs [-getElem?_pos,go_sem,eqV,aj,scalars,scalar])
 apply au.assoc
 apply au.seq (fr':=pO (.sl 2 0 0 0) 0) (H':=E0)
 ·simp only [pO,fnV]
  (refine ⟨0,?_⟩;simp (maxSteps:=2000000) -implicitDefEqProofs [-getElem?_pos,go_sem,eqV,aj])
 apply au.andThen (P:=fun fr E'=>∃ v ex M,aI fr 3 = v∧PcV c b 1 E' v (nU b b.length [] 0) ex M)
 ·apply au.block
  refine au.lJ (I:=fun q fr E'=>∃ v L ex M p,bZ [1,3,4,5,6] fr = pO v p∧PcV c b 1 E' v L ex M∧Bv M p∧p≤b.length∧b.length≤p + q∧L.length≤p∧L ++ nU b q M p = nU b b.length [] 0) ?_ (k:=b.length) ⟨_,[],[],[],0,by simp [pO,bZ,aI],hV,⟨by simp,by simp⟩,by omega,by omega,by simp,rfl⟩
  rintro q fr E' ⟨v,L,ex,M,p,hfr,hV,hM,hp,hq,hL,he⟩
  have g1:aI fr 1 = .ptr 0 0 0 0:=by simpa [bZ,pO,aI] using congrArg (fun f=>aI f 1) hfr
  have g3:aI fr 3 = v:=by simpa [bZ,pO,aI] using congrArg (fun f=>aI f 3) hfr
  have g4:aI fr 4 = .ptr 4 0 0 0:=by simpa [bZ,pO,aI] using congrArg (fun f=>aI f 4) hfr
  have g5:aI fr 5 = fnV:=by simpa [bZ,pO,aI] using congrArg (fun f=>aI f 5) hfr
  have g6:aI fr 6 = .int .i64 (p:Nat):=by simpa [bZ,pO,aI] using congrArg (fun f=>aI f 6) hfr
  obtain ⟨τ1,τ2,_,_,h1⟩:=hV.nt.bx
  simp only [bxN] at h1
  apply au.assoc
  by_cases hpl:p < b.length
  ·have JH:(p:Int) < (b.length:Int):=by omega
   obtain ⟨q,rfl⟩:∃ q',q = q' + 1:=⟨q - 1,by omega⟩
   apply au.seq (fr':=pO v p ++ [(18,.bool true)]) (H':=E')
   ·simp only [pO]
    (refine ⟨0,?_⟩;simp (maxSteps:=2000000) -implicitDefEqProofs [-getElem?_pos,go_sem,eqV,aj,g1,g3,g4,g5,g6,h1,JH,hpl])
   apply au.seq (fr':=pO v p ++ [(18,.bool true)]) (H':=E')
   ·exact Run.cond (d:=true) (by simp [pO,aK,aI]) ⟨0,rfl⟩
   refine (piece (QV (m:=m) hV hM hpl hb (by omega)) _ rfl).mono ?_
   rintro ⟨xx,fr2,E2⟩ ⟨hx,v',ex',hfr2,hV2⟩
   simp only at hx hfr2 hV2
   subst hx
   have hfit:=zi (M:=M) hpl
   refine .inl ⟨rfl,q,by omega,v',_,ex',_,_,hfr2,hV2,hM.up _,hfit,by omega,by simp;omega,?_⟩
   rw [nU,if_pos hpl] at he
   rw [← he]
   simp
  ·have JH:¬ (p:Int) < (b.length:Int):=by omega
   refine au.of (o:=⟨.exit 0,pO v p ++ [(18,.bool false)],E'⟩) ?_ (.inr ⟨by simp,rfl,v,ex,M,by simp [pO,aI],?_⟩)
   ·refine Run.seq (fr':=pO v p ++ [(18,.bool false)]) (H':=E') ?_ ?_
    ·simp only [pO]
     (refine ⟨0,?_⟩;simp (maxSteps:=2000000) -implicitDefEqProofs [-getElem?_pos,go_sem,eqV,aj,g1,g3,g4,g5,g6,h1,JH,hpl])
    ·refine Run.bH ?_ (by simp)
     exact Run.cond (d:=false) (by simp [pO,aK,aI]) ⟨0,rfl⟩
   ·have hq0:nU b q M p = []:=by
     cases q with
     | zero=>rfl
     | succ q=>rw [nU,if_neg hpl]
    rw [hq0,List.append_nil] at he
    rw [← he]
    exact hV
 rintro fr E' ⟨v,ex,M,hv,hV⟩
 obtain ⟨g,ob,rfl,ho,hw⟩:=hV.row
 generalize nU b b.length [] 0 = L at *
 refine au.of (o:=⟨.ret,[(2,.sl 2 0 L.length g)],E'⟩) ?_ ⟨rfl,g,ob,rfl,ho,hw⟩
 generalize L.length = N at *
 refine ⟨0,?_⟩
 simp (maxSteps:=2000000) -implicitDefEqProofs [-getElem?_pos,go_sem,eqV,aj,hv,aC]
theorem G9 (L:List Pc):aT (L.map pcR) = []∧bW (L.map pcR) = []:=by
 induction L with
 | nil=>exact ⟨rfl,rfl⟩
 | cons x L ih=>exact ⟨by simp [aT,ih.1,pcR,ids],by simp [bW,ih.2,pcR,tags]⟩
theorem Ef {H:AM.Heap} {a:AV} (ha:iD H a = some (.pb b)) (hb:b.length≤1400):∃ ob,Rw (.pr 3 ((nU b b.length [] 0).map pcR)) 0 ob∧evT X 10 [a] H = some (.sl H.length 0 (nU b b.length [] 0).length 0,H ++ [some ob]):=by
 obtain ⟨c,x,hx⟩:=fJ (C:=X) (f:=10) (i:=0) rfl ha (dQ 1)
 obtain ⟨code,hc,⟨out,⟨ho,g,ob,h1,h2,hw⟩,hrun⟩⟩:=G8 (m:=0) (c:=c) hb
 obtain ⟨f1,f2⟩:=G9 (nU b b.length [] 0)
 obtain ⟨ob',q1,q2⟩:=Ev1.newR (C:=X) (H:=H) (bJ X) (n:=(nU b b.length [] 0).length) (es:=3) (l:=(nU b b.length [] 0).map pcR) (rest:=[]) Try.func10 hc hx rfl (by simp [dJ]) rfl rfl rfl f1 f2 (by
  rw [VB]
  refine ⟨out,⟨ho,2,g,ob,?_,h2,hw⟩,hrun⟩
  show bf X out.fr out.H [.tmp 2] = _
  simp [bf,h1])
 exact ⟨ob',q1,eH q2⟩
end
end Go.Proofs.Yteblpjhkgdpchaa
namespace Go.Proofs.Yteblpjhkgdpchaa
open Go.AM
structure Px where
 len:Int
 dist:Int
 byte:UInt8
def pxR (x:Px):AV:=.pc [.int .i64 x.len,.int .i64 x.dist,.int .u8 (x.byte.toNat:Nat)]
def pxO (x:Px):AM.Obj:=⟨pxR x,0,some 3,1,false,true,0⟩
def kS (x:Px):Bool:=if x.len = 0 then decide (x.dist = 0) else decide (3≤x.len) && (decide (x.len≤258) && (decide (1≤x.dist) && (decide (x.dist≤32768) && decide (x.byte = 0))))
def jF (d:Nat):Nat→List UInt8→List UInt8
 | 0,o=>o
 | n + 1,o=>jF d n (o ++ [o.getD (o.length - d) 0])
def jY:List Px→List UInt8→List UInt8 × Int
 | [],o=>(o,0)
 | x :: r,o=>if kS x = false then ([],2) else if x.len = 0 then jY r (o ++ [x.byte]) else if (o.length:Int) < x.dist then ([],5) else jY r (jF x.dist.toNat x.len.toNat o)
theorem OC (x:Px):∃ code,Try.f26.body = some code∧au (nY fun fr H=>aI fr 2 = .bool (kS x)) X (evT X) 26 0 code [(0,.agg (pxR x))] []:=by
 refine ⟨_,rfl,?_⟩
 simp only [pxR]
 apply au.seq (fr':=[(1,.ptr 0 0 0 0)]) (H':=[some (⟨.pc [.int .i64 x.len,.int .i64 x.dist,.int .u8 (x.byte.toNat:Nat)],0,some 3,1,false,true,0⟩:AM.Obj)])
 ·(refine ⟨0,?_⟩;simp (maxSteps:=2000000) -implicitDefEqProofs [-getElem?_pos,go_sem,eqV,aj])
 unfold kS
 by_cases h0:x.len = 0
 ·rw [if_pos h0,h0]
  refine au.of (o:=⟨.ret,[(2,.bool (decide (x.dist = 0)))],[some (⟨.pc [.int .i64 0,.int .i64 x.dist,.int .u8 (x.byte.toNat:Nat)],0,some 3,1,false,true,0⟩:AM.Obj)]⟩) ?_ ⟨rfl,rfl⟩
  refine ⟨0,?_⟩
  by_cases h1:x.dist = 0
  ·rw [decide_eq_true h1,h1]
   simp (maxSteps:=2000000) -implicitDefEqProofs [-getElem?_pos,go_sem,eqV,aj]
  ·have h1b:(x.dist == 0) = false:=by simpa using h1
   rw [decide_eq_false h1]
   simp (maxSteps:=2000000) -implicitDefEqProofs [-getElem?_pos,go_sem,eqV,aj,h1,h1b]
 ·rw [if_neg h0]
  have h0b:(x.len == 0) = false:=by simpa using h0
  refine au.of (o:=⟨.ret,[(2,.bool (decide (3≤x.len) && (decide (x.len≤258) && (decide (1≤x.dist) && (decide (x.dist≤32768) && decide (x.byte = 0))))))],[some (⟨.pc [.int .i64 x.len,.int .i64 x.dist,.int .u8 (x.byte.toNat:Nat)],0,some 3,1,false,true,0⟩:AM.Obj)]⟩) ?_ ⟨rfl,rfl⟩
  refine ⟨0,?_⟩
  by_cases h1:3≤x.len
  ·rw [decide_eq_true h1]
   by_cases h2:x.len≤258
   ·rw [decide_eq_true h2]
    by_cases h3:1≤x.dist
    ·rw [decide_eq_true h3]
     by_cases h4:x.dist≤32768
     ·rw [decide_eq_true h4]
      by_cases h5:x.byte = 0
      ·rw [decide_eq_true h5,h5]
       simp (maxSteps:=2000000) -implicitDefEqProofs [-getElem?_pos,go_sem,eqV,aj,h0,h0b,h1,h2,h3,h4]
      ·have h5N:¬ x.byte.toNat = 0:=fun h=>h5 (UInt8.toNat_inj.1 h)
       have h5b:((x.byte.toNat:Int) == 0) = false:=by simpa using h5N
       have h5I:¬ (x.byte.toNat:Int) = 0:=by omega
       rw [decide_eq_false h5]
       simp (maxSteps:=2000000) -implicitDefEqProofs [-getElem?_pos,go_sem,eqV,aj,h0,h0b,h1,h2,h3,h4,h5N,h5b,h5I]
     ·rw [decide_eq_false h4]
      simp (maxSteps:=2000000) -implicitDefEqProofs [-getElem?_pos,go_sem,eqV,aj,h0,h0b,h1,h2,h3,h4]
    ·rw [decide_eq_false h3]
     simp (maxSteps:=2000000) -implicitDefEqProofs [-getElem?_pos,go_sem,eqV,aj,h0,h0b,h1,h2,h3]
   ·rw [decide_eq_false h2]
    simp (maxSteps:=2000000) -implicitDefEqProofs [-getElem?_pos,go_sem,eqV,aj,h0,h0b,h1,h2]
  ·rw [decide_eq_false h1]
   simp (maxSteps:=2000000) -implicitDefEqProofs [-getElem?_pos,go_sem,eqV,aj,h0,h0b,h1]
theorem TT (H:AM.Heap) (x:Px):evT X 26 [.agg (pxR x)] H = some (.bool (kS x),H):=by
 obtain ⟨code,hc,⟨out,⟨ho,h2⟩,hr⟩⟩:=OC x
 have hl:aO X 26 H 0 [.agg (pxR x)] = some ([.agg (pxR x)],[⟨[],[]⟩]):=by
  have hrw:X.rw 26 0 = false:=rfl
  simp [aO,hrw,fU,iP,eY,pxR,tags]
 refine eH (Ev1.pR (l:=[.bool (kS x)]) (bJ X) Try.func26 hc hl rfl (by simp [dJ]) rfl rfl rfl ?_)
 rw [VD]
 refine ⟨out,⟨ho,?_⟩,hr⟩
 show some [aI out.fr 2] = _
 rw [h2]
end Go.Proofs.Yteblpjhkgdpchaa
namespace Go.Proofs.Yteblpjhkgdpchaa
open Go.AM
def mM (v:AV) (c:Nat) (l:List Px) (i:Nat):AM.Frame:=[(4,v),(7,.ro c (.pr 3 (l.map pxR)) 1),(8,.int .i64 (l.length:Nat)),(9,.int .i64 (i:Nat))]
def jZ (v:AV) (q c:Nat) (l:List Px) (i:Nat):AM.Frame:=[(4,v),(6,.ptr q 0 0 0),(7,.ro c (.pr 3 (l.map pxR)) 1),(8,.int .i64 (l.length:Nat)),(9,.int .i64 (i:Nat))]
theorem Q5 (l:List AV):l9 X 25 l = some (.pc l):=OD l
theorem zn (d:Nat):∀ (n:Nat) (o:List UInt8),(jF d n o).length = o.length + n
 | 0,o=>rfl
 | n + 1,o=>by rw [jF,zn d n];simp;omega
section
variable {c:Nat} {l:List Px}
theorem VE {m i:Nat} {x:Px} {v:AV} {E:AM.Heap} (hx:l[i]? = some x) (hl:l.length≤100000):∃ code,((Try.f14.body).bind (aS [1,1,0,1,0,0,1,1,0,0,0])) = some code∧Run X (evT X) 14 m code (mM v c l i ++ [(10,.bool true)]) E ⟨.normal,jZ v E.length c l i,E ++ [some (pxO x)]⟩:=by
 refine ⟨_,rfl,?_⟩
 have hx':(l.map pxR)[i]? = some (pxR x):=by rw [List.getElem?_map,hx];rfl
 have hi:=iF hx
 have hiI:(i:Int) < (l.length:Int):=by omega
 have hll:(l.map pxR).length = l.length:=by simp
 simp only [mM,jZ,pxO,pxR] at hx' ⊢
 generalize l.map pxR = R at *
 generalize l.length = N at *
 (refine ⟨0,?_⟩;simp (maxSteps:=2000000) -implicitDefEqProofs [-getElem?_pos,go_sem,eqV,aj,hx',hi,hiI,hll,Q5,jI,retag,Fp,A8,splice,jy,scalars,scalar])
theorem VF {m i q:Nat} {x:Px} {v:AV} {E:AM.Heap} (hq:E[q]? = some (some (pxO x))):∃ code,((Try.f14.body).bind (aS [1,1,0,1,0,0,1,1,0,0,1,0,0])) = some code∧Run X (evT X) 14 m code (jZ v q c l i) E ⟨.normal,jZ v q c l i ++ [(15,.bool (!kS x))],E⟩:=by
 refine ⟨_,rfl,?_⟩
 have hM:=TT E x
 generalize kS x = d at *
 simp only [jZ,pxO,pxR] at hq hM ⊢
 generalize l.map pxR = R at *
 generalize l.length = N at *
 cases d <;> (refine ⟨0,?_⟩;simp (maxSteps:=2000000) -implicitDefEqProofs [-getElem?_pos,go_sem,eqV,aj,hq,hM,Q5,jI,retag])
theorem AO:dB X 5 = .pb []:=by kernel_rfl
theorem VG {m i q N g:Nat} {x:Px} {v:AV} {tl:AM.Frame} {E E':AM.Heap} (hq:E[q]? = some (some (pxO x))) (hA:dV X E 28 v (.ro 1 (.pb [x.byte]) 0) = some (.sl 1 0 N g,E')):∃ code,((Try.f14.body).bind (aS [1,1,0,1,0,0,1,1,0,0,1,1,0,1,0,0])) = some code∧Run X (evT X) 14 m code (jZ v q c l i ++ tl) E ⟨.normal,mM (.sl 1 0 N g) c l i,E'⟩:=by
 refine ⟨_,rfl,?_⟩
 have hbs:=bsW E x.byte
 simp only [jZ,mM,pxO,pxR] at hq ⊢
 generalize l.map pxR = R at *
 generalize l.length = N at *
 (refine ⟨0,?_⟩;simp (maxSteps:=2000000) -implicitDefEqProofs [-getElem?_pos,go_sem,eqV,aj,hq,hA,hbs,aC])
theorem VH {m i q g:Nat} {x:Px} {o:List UInt8} {ob:AM.Obj} {tl:AM.Frame} {E:AM.Heap} (hq:E[q]? = some (some (pxO x))) (ho:E[1]? = some (some ob)) (hw:Rw (.pb o) g ob):∃ code,((Try.f14.body).bind (aS [1,1,0,1,0,0,1,1,0,0,1,1,1,0,0])) = some code∧Run X (evT X) 14 m code (jZ (.sl 1 0 o.length g) q c l i ++ tl) E ⟨.normal,jZ (.sl 1 0 o.length g) q c l i ++ [(28,.bool (decide ((o.length:Int) < x.dist)))],E⟩:=by
 refine ⟨_,rfl,?_⟩
 have hg:=hw.g
 simp only [jZ,pxO,pxR] at hq ⊢
 generalize l.map pxR = R at *
 generalize l.length = N at *
 generalize o.length = K at *
 by_cases h:(K:Int) < x.dist
 ·rw [decide_eq_true h]
  (refine ⟨0,?_⟩;simp (maxSteps:=2000000) -implicitDefEqProofs [-getElem?_pos,go_sem,eqV,aj,hq,ho,hg,h])
 ·rw [decide_eq_false h]
  (refine ⟨0,?_⟩;simp (maxSteps:=2000000) -implicitDefEqProofs [-getElem?_pos,go_sem,eqV,aj,hq,ho,hg,h])
def tZ (v:AV) (q c:Nat) (l:List Px) (i n j:Nat):AM.Frame:=[(4,v),(6,.ptr q 0 0 0),(7,.ro c (.pr 3 (l.map pxR)) 1),(8,.int .i64 (l.length:Nat)),(9,.int .i64 (i:Nat)),(30,.int .i64 (n:Nat)),(31,.int .i64 (j:Nat))]
theorem TU {m i q n j g d:Nat} {x:Px} {o:List UInt8} {ob:AM.Obj} {tl:AM.Frame} {E:AM.Heap} (hq:E[q]? = some (some (pxO x))) (hd:x.dist = (d:Nat)) (hd1:1≤d) (hd2:d≤o.length) (ho:E[1]? = some (some ob)) (hw:Rw (.pb o) g ob) (hol:o.length≤1000000) :
  ∃ ob',Rw (.pb (o ++ [o.getD (o.length - d) 0])) (g + 1) ob'∧∃ code,((Try.f14.body).bind (aS [1,1,0,1,0,0,1,1,0,0,1,1,1,1,1,0,0,1,1,0,0])) = some code∧Run X (evT X) 14 m code (tZ (.sl 1 0 o.length g) q c l i n j ++ tl) E ⟨.normal,tZ (.sl 1 0 (o.length + 1) (g + 1)) q c l i n j,upd E 1 (some ob')⟩:=by
 have hy:o[o.length - d]? = some (o.getD (o.length - d) 0):=by
  rw [List.getD_eq_getElem?_getD,List.getElem?_eq_getElem (by omega)];rfl
 generalize o.getD (o.length - d) 0 = y at *
 obtain ⟨ob',w1,w2⟩:=zq (C:=X) (T:=28) (e:=5) (H:=E) (o:=1) (m:=[y]) (src:=.ro 1 (.pb [y]) 0) uf BA ug bytes5 BD ho hw (.inl (by simp [kD,oM,qO])) (by simp;omega)
 refine ⟨ob',w1,_,rfl,?_⟩
 have hbs:=bsW E y
 have q1:=hw.p;have q2:=hw.g;have q4:=hw.ids;have q5:=hw.tg
 have w3:IntKind.i64.wrap ((o.length:Int) - (d:Int)) = ((o.length - d:Nat):Int):=by rw [wrap_i64 (by omega) (by omega)];omega
 have hlt:o.length - d < o.length:=by omega
 have jB:((o.length - d:Nat):Int) < (o.length:Int):=by omega
 simp only [List.length_singleton] at w2
 simp only [tZ,pxO,pxR,hd] at hq ⊢
 generalize l.map pxR = R at *
 generalize l.length = N at *
 generalize o.length - d = kd at *
 generalize hK:o.length = K at *
 generalize K + 1 = K1 at *
 (refine ⟨0,?_⟩;simp (maxSteps:=2000000) -implicitDefEqProofs [-getElem?_pos,go_sem,eqV,aj,hq,ho,q1,q2,q4,q5,w3,hy,hlt,jB,hbs,w2,hK,aC])
end
end Go.Proofs.Yteblpjhkgdpchaa
namespace Go.Proofs.Yteblpjhkgdpchaa
open Go.AM
section
variable {c:Nat} {l:List Px}
theorem Q7 {m i q n g d:Nat} {x:Px} {o:List UInt8} {ob:AM.Obj} {E:AM.Heap} (hq:E[q]? = some (some (pxO x))) (hq1:q ≠ 1) (hd:x.dist = (d:Nat)) (hd1:1≤d) (hd2:d≤o.length) (ho:E[1]? = some (some ob)) (hw:Rw (.pb o) g ob) (hol:o.length + n≤1000000) :
  ∃ code,((Try.f14.body).bind (aS [1,1,0,1,0,0,1,1,0,0,1,1,1,1,1])) = some code∧au (Goes fun fr E'=>∃ g' ob',bZ [4,7,8,9] fr = mM (.sl 1 0 (jF d n o).length g') c l i∧E'[1]? = some (some ob')∧Rw (.pb (jF d n o)) g' ob') X (evT X) 14 m code (tZ (.sl 1 0 o.length g) q c l i n 0) E:=by
 refine ⟨_,rfl,?_⟩
 apply au.block
 refine au.lJ (I:=fun k fr E'=>∃ j o' g' ob',j≤n∧k = n - j∧fr = tZ (.sl 1 0 o'.length g') q c l i n j∧E'[q]? = some (some (pxO x))∧E'[1]? = some (some ob')∧Rw (.pb o') g' ob'∧o'.length = o.length + j∧jF d (n - j) o' = jF d n o) ?_ (k:=n) ⟨0,o,g,ob,by omega,rfl,rfl,hq,ho,hw,rfl,rfl⟩
 rintro k fr E' ⟨j,o',g',ob',hj,rfl,rfl,hq',ho',hw',hlen,hc⟩
 by_cases hjn:j = n
 ·subst hjn
  rw [Nat.sub_self] at hc
  refine au.of (o:=⟨.exit 2,tZ (.sl 1 0 o'.length g') q c l i j j ++ [(32,.bool false)],E'⟩) ?_ (.inr ⟨by simp,rfl,g',ob',by rw [← hc];simp [tZ,mM,bZ,aI,jF],ho',by rw [← hc];exact hw'⟩)
  refine ⟨0,?_⟩
  simp only [tZ]
  generalize l.map pxR = R at *
  generalize l.length = N at *
  generalize o'.length = K at *
  simp (maxSteps:=2000000) -implicitDefEqProofs [-getElem?_pos,go_sem,eqV,aj]
 ·have hlt:j < n:=by omega
  have jB:(j:Int) < (n:Int):=by omega
  obtain ⟨ob2,w1,hr⟩:=TU (m:=m) (c:=c) (l:=l) (i:=i) (n:=n) (j:=j) (tl:=[(32,.bool true)]) hq' hd hd1 (by omega) ho' hw' (by omega)
  have hn1:n - j = (n - (j + 1)) + 1:=by omega
  rw [hn1,jF] at hc
  refine au.of (o:=⟨.normal,tZ (.sl 1 0 (o'.length + 1) (g' + 1)) q c l i n (j + 1),upd E' 1 (some ob2)⟩) ?_ (.inl ⟨rfl,n - (j + 1),by omega,j + 1,o' ++ [o'.getD (o'.length - d) 0],g' + 1,ob2,by omega,rfl,by simp,Bz hq' (Ne.symm hq1),setAt ho',w1,by simp;omega,hc⟩)
  apply Run.seq (fr':=tZ (.sl 1 0 o'.length g') q c l i n j ++ [(32,.bool true)]) (H':=E')
  ·simp only [tZ]
   generalize l.map pxR = R at *
   generalize l.length = N at *
   generalize o'.length = K at *
   (refine ⟨0,?_⟩;simp (maxSteps:=2000000) -implicitDefEqProofs [-getElem?_pos,go_sem,eqV,aj,jB,hlt])
  apply Run.seq (fr':=tZ (.sl 1 0 o'.length g') q c l i n j ++ [(32,.bool true)]) (H':=E')
  ·exact Run.cond (d:=true) (by simp [tZ,aK,aI]) ⟨0,rfl⟩
  apply Run.seq (fr':=tZ (.sl 1 0 (o'.length + 1) (g' + 1)) q c l i n j) (H':=upd E' 1 (some ob2))
  ·apply Run.block
   ·exact piece hr _ rfl
   ·simp
  ·have w4:IntKind.i64.wrap ((j:Int) + 1) = ((j + 1:Nat):Int):=by rw [wrap_i64 (by omega) (by omega)];omega
   generalize j + 1 = j1 at *
   simp only [tZ]
   generalize l.map pxR = R at *
   generalize l.length = N at *
   generalize o'.length + 1 = K at *
   (refine ⟨0,?_⟩;simp (maxSteps:=2000000) -implicitDefEqProofs [-getElem?_pos,go_sem,eqV,aj,w4])
def exX (l:List Px) (fr:AM.Frame) (E:AM.Heap):Prop:=∃ o e a g ob,jY l [] = (o,e)∧aI fr 2 = .sl a 0 o.length g∧aI fr 3 = .int .i64 e∧E[a]? = some (some ob)∧Rw (.pb o) g ob
theorem xY {x:Px} (h:kS x = true) (h0:¬ x.len = 0):∃ n d:Nat,x.len = n∧x.dist = d∧3≤n∧n≤258∧1≤d:=by
 unfold kS at h
 rw [if_neg h0] at h
 simp at h
 exact ⟨x.len.toNat,x.dist.toNat,by omega,by omega,by omega,by omega,by omega⟩
theorem Q8 {m i g:Nat} {x:Px} {o:List UInt8} {ob:AM.Obj} {E:AM.Heap} (hx:l[i]? = some x) (hl:l.length≤2000) (ho:E[1]? = some (some ob)) (hw:Rw (.pb o) g ob) (hol:o.length≤258 * i) (he:jY (l.drop i) o = jY l []) :
  ∃ code,((Try.f14.body).bind (aS [1,1,0,1,0,0,1,1])) = some code∧au (fun out=>(out.ex = .normal∧∃ o' g' ob',out.fr = mM (.sl 1 0 o'.length g') c l (i + 1)∧out.H[1]? = some (some ob')∧Rw (.pb o') g' ob'∧o'.length≤258 * (i + 1)∧jY (l.drop (i + 1)) o' = jY l [])∨(out.ex = .ret∧exX l out.fr out.H)) X (evT X) 14 m code (mM (.sl 1 0 o.length g) c l i ++ [(10,.bool true)]) E:=by
 refine ⟨_,rfl,?_⟩
 have hi:=iF hx
 have hdrop:l.drop i = x :: l.drop (i + 1):=by
  rw [List.drop_eq_getElem_cons hi]
  rw [List.getElem?_eq_getElem hi] at hx
  rw [Option.some.inj hx]
 rw [hdrop,jY] at he
 have hg:=hw.g
 have hE1:=iF ho
 have hq:(E ++ [some (pxO x)])[E.length]? = some (some (pxO x)):=by simp
 have ho2:(E ++ [some (pxO x)])[1]? = some (some ob):=by rw [List.getElem?_append_left hE1];exact ho
 have hr4:=VE (m:=m) (c:=c) (v:=.sl 1 0 o.length g) (E:=E) hx (by omega)
 have hq1:E.length ≠ 1:=by omega
 generalize E ++ [some (pxO x)] = E0 at *
 generalize E.length = q at *
 have hr5:=VF (m:=m) (c:=c) (l:=l) (i:=i) (v:=.sl 1 0 o.length g) hq
 have w1:IntKind.i64.wrap ((i:Int) + 1) = ((i + 1:Nat):Int):=by rw [wrap_i64 (by omega) (by omega)];omega
 by_cases hm:kS x = false
 ·rw [if_pos hm] at he
  rw [hm] at hr5
  refine au.of (o:=⟨.ret,[(2,.sl E0.length 0 0 0),(3,.int .i64 2)],E0 ++ [some (⟨.pb [],0,none,0,true,false,0⟩:AM.Obj)]⟩) ?_ (.inr ⟨rfl,[],2,E0.length,0,_,he.symm,rfl,rfl,List.getElem?_concat_length,⟨rfl,rfl,rfl,rfl,rfl⟩⟩)
  refine Run.bH ?_ (by simp)
  refine Run.block ?_ (by simp)
  apply Run.seq (piece hr4 _ rfl)
  refine Run.bH ?_ (by simp)
  apply Run.seq (piece hr5 _ rfl)
  refine Run.cond (d:=true) (by simp [jZ,aK,aI]) ?_
  apply Run.seq (fr':=[(2,.sl E0.length 0 0 0),(3,.int .i64 2)]) (H':=E0 ++ [some (⟨.pb [],0,none,0,true,false,0⟩:AM.Obj)])
  ·simp only [jZ]
   generalize l.map pxR = R at *
   generalize l.length = N at *
   generalize o.length = K at *
   (refine ⟨0,?_⟩;simp (maxSteps:=2000000) -implicitDefEqProofs [-getElem?_pos,go_sem,eqV,aj,aC,rowOf,AO])
  ·exact ⟨0,rfl⟩
 have hmt:kS x = true:=by simpa using hm
 rw [if_neg hm] at he
 rw [hmt] at hr5
 by_cases h0:x.len = 0
 ·rw [if_pos h0] at he
  obtain ⟨ob',k1,k2⟩:=zq (C:=X) (T:=28) (e:=5) (H:=E0) (o:=1) (m:=[x.byte]) (src:=.ro 1 (.pb [x.byte]) 0) uf BA ug bytes5 BD ho2 hw (.inl (by simp [kD,oM,qO])) (by simp;omega)
  simp only [List.length_singleton] at k2
  have hr8:=VG (m:=m) (c:=c) (l:=l) (i:=i) (tl:=[(18,.bool true)]) hq k2
  refine au.of (o:=⟨.normal,mM (.sl 1 0 (o.length + 1) (g + 1)) c l (i + 1),upd E0 1 (some ob')⟩) ?_ (.inl ⟨rfl,o ++ [x.byte],g + 1,ob',by simp,setAt ho2,k1,by simp;omega,he⟩)
  apply Run.seq (fr':=mM (.sl 1 0 (o.length + 1) (g + 1)) c l i) (H':=upd E0 1 (some ob'))
  ·refine Run.fV ?_
   apply Run.seq (piece hr4 _ rfl)
   apply Run.seq (fr':=jZ (.sl 1 0 o.length g) q c l i ++ [(15,.bool false)]) (H':=E0)
   ·apply Run.seq (piece hr5 _ rfl)
    exact Run.cond (d:=false) (by simp [jZ,aK,aI]) ⟨0,rfl⟩
   refine Run.bH ?_ (by simp)
   apply Run.seq (fr':=jZ (.sl 1 0 o.length g) q c l i ++ [(18,.bool true)]) (H':=E0)
   ·simp only [jZ,pxO,pxR,h0] at hq ⊢
    generalize l.map pxR = R at *
    generalize l.length = N at *
    generalize o.length = K at *
    (refine ⟨0,?_⟩;simp (maxSteps:=2000000) -implicitDefEqProofs [-getElem?_pos,go_sem,eqV,aj,hq])
   refine Run.cond (d:=true) (by simp [jZ,aK,aI]) ?_
   exact Run.seq (piece hr8 _ rfl) ⟨0,rfl⟩
  ·simp only [mM]
   generalize l.map pxR = R at *
   generalize l.length = N at *
   generalize o.length + 1 = K at *
   generalize i + 1 = i1 at *
   (refine ⟨0,?_⟩;simp (maxSteps:=2000000) -implicitDefEqProofs [-getElem?_pos,go_sem,eqV,aj,w1])
 rw [if_neg h0] at he
 obtain ⟨n,d,hn,hd,n3,n258,d1⟩:=xY hmt h0
 have hr9:=VH (m:=m) (c:=c) (l:=l) (i:=i) (x:=x) (tl:=[(18,.bool false)]) hq ho2 hw
 have hr7:∃ code,((Try.f14.body).bind (aS [1,1,0,1,0,0,1,1,0,0,1,1,0,0])) = some code∧Run X (evT X) 14 m code (jZ (.sl 1 0 o.length g) q c l i ++ [(15,.bool false)]) E0 ⟨.normal,jZ (.sl 1 0 o.length g) q c l i ++ [(18,.bool false)],E0⟩:=by
  refine ⟨_,rfl,?_⟩
  have h0b:(x.len == 0) = false:=by simpa using h0
  simp only [jZ,pxO,pxR] at hq ⊢
  generalize l.map pxR = R at *
  generalize l.length = N at *
  generalize o.length = K at *
  (refine ⟨0,?_⟩;simp (maxSteps:=2000000) -implicitDefEqProofs [-getElem?_pos,go_sem,eqV,aj,hq,h0,h0b])
 by_cases hbig:(o.length:Int) < x.dist
 ·rw [if_pos hbig] at he
  rw [decide_eq_true hbig] at hr9
  refine au.of (o:=⟨.ret,[(2,.sl E0.length 0 0 0),(3,.int .i64 5)],E0 ++ [some (⟨.pb [],0,none,0,true,false,0⟩:AM.Obj)]⟩) ?_ (.inr ⟨rfl,[],5,E0.length,0,_,he.symm,rfl,rfl,List.getElem?_concat_length,⟨rfl,rfl,rfl,rfl,rfl⟩⟩)
  refine Run.bH ?_ (by simp)
  refine Run.block ?_ (by simp)
  apply Run.seq (piece hr4 _ rfl)
  apply Run.seq (fr':=jZ (.sl 1 0 o.length g) q c l i ++ [(15,.bool false)]) (H':=E0)
  ·apply Run.seq (piece hr5 _ rfl)
   exact Run.cond (d:=false) (by simp [jZ,aK,aI]) ⟨0,rfl⟩
  apply Run.seq (fr':=jZ (.sl 1 0 o.length g) q c l i ++ [(18,.bool false)]) (H':=E0)
  ·apply Run.seq (piece hr7 _ rfl)
   exact Run.cond (d:=false) (by simp [jZ,aK,aI]) ⟨0,rfl⟩
  refine Run.bH ?_ (by simp)
  apply Run.seq (piece hr9 _ rfl)
  refine Run.cond (d:=true) (by simp [jZ,aK,aI]) ?_
  apply Run.seq (fr':=[(2,.sl E0.length 0 0 0),(3,.int .i64 5)]) (H':=E0 ++ [some (⟨.pb [],0,none,0,true,false,0⟩:AM.Obj)])
  ·simp only [jZ]
   generalize l.map pxR = R at *
   generalize l.length = N at *
   generalize o.length = K at *
   (refine ⟨0,?_⟩;simp (maxSteps:=2000000) -implicitDefEqProofs [-getElem?_pos,go_sem,eqV,aj,aC,rowOf,AO])
  ·exact ⟨0,rfl⟩
 rw [if_neg hbig,hn,hd] at he
 simp only [Int.toNat_natCast] at he
 rw [decide_eq_false hbig] at hr9
 have hcl:=zn d n o
 obtain ⟨OE,hcB,⟨⟨ex,fr,E2⟩,⟨he2,g',ob',hfr,ho',hw'⟩,hrB⟩⟩:=Q7 (m:=m) (c:=c) (l:=l) (i:=i) (n:=n) hq hq1 hd d1 (by omega) ho2 hw (by omega)
 simp only at he2 hfr ho'
 subst he2
 refine au.of (o:=⟨.normal,mM (.sl 1 0 (jF d n o).length g') c l (i + 1),E2⟩) ?_ (.inl ⟨rfl,jF d n o,g',ob',rfl,ho',hw',by rw [hcl];omega,he⟩)
 apply Run.seq (fr':=fr) (H':=E2)
 ·refine Run.block ?_ (by simp)
  apply Run.seq (piece hr4 _ rfl)
  apply Run.seq (fr':=jZ (.sl 1 0 o.length g) q c l i ++ [(15,.bool false)]) (H':=E0)
  ·apply Run.seq (piece hr5 _ rfl)
   exact Run.cond (d:=false) (by simp [jZ,aK,aI]) ⟨0,rfl⟩
  apply Run.seq (fr':=jZ (.sl 1 0 o.length g) q c l i ++ [(18,.bool false)]) (H':=E0)
  ·apply Run.seq (piece hr7 _ rfl)
   exact Run.cond (d:=false) (by simp [jZ,aK,aI]) ⟨0,rfl⟩
  apply Run.seq (fr':=jZ (.sl 1 0 o.length g) q c l i ++ [(28,.bool false)]) (H':=E0)
  ·apply Run.seq (piece hr9 _ rfl)
   exact Run.cond (d:=false) (by simp [jZ,aK,aI]) ⟨0,rfl⟩
  apply Run.seq (fr':=tZ (.sl 1 0 o.length g) q c l i n 0) (H':=E0)
  ·simp only [jZ,tZ,pxO,pxR,hn] at hq ⊢
   generalize l.map pxR = R at *
   generalize l.length = N at *
   generalize o.length = K at *
   (refine ⟨0,?_⟩;simp (maxSteps:=2000000) -implicitDefEqProofs [-getElem?_pos,go_sem,eqV,aj,hq])
  ·exact (Option.some.inj hcB) ▸ hrB
 ·have g4:aI fr 4 = .sl 1 0 (jF d n o).length g':=by simpa [bZ,mM,aI] using congrArg (fun f=>aI f 4) hfr
  have g7:aI fr 7 = .ro c (.pr 3 (l.map pxR)) 1:=by simpa [bZ,mM,aI] using congrArg (fun f=>aI f 7) hfr
  have g8:aI fr 8 = .int .i64 (l.length:Nat):=by simpa [bZ,mM,aI] using congrArg (fun f=>aI f 8) hfr
  have g9:aI fr 9 = .int .i64 (i:Nat):=by simpa [bZ,mM,aI] using congrArg (fun f=>aI f 9) hfr
  simp only [mM]
  generalize l.map pxR = R at *
  generalize l.length = N at *
  generalize (jF d n o).length = K at *
  generalize i + 1 = i1 at *
  (refine ⟨0,?_⟩;simp (maxSteps:=2000000) -implicitDefEqProofs [-getElem?_pos,go_sem,eqV,aj,g4,g7,g8,g9,w1])
end
end Go.Proofs.Yteblpjhkgdpchaa
namespace Go.Proofs.Yteblpjhkgdpchaa
open Go.AM
section
variable {c:Nat} {l:List Px}
theorem He {m:Nat} (hl:l.length≤2000):∃ code,Try.f14.body = some code∧au (nY (exX l)) X (evT X) 14 m code [(0,.ro c (.pr 3 (l.map pxR)) 1)] []:=by
 refine ⟨_,rfl,?_⟩
 apply au.seq (fr':=[(0,.ro c (.pr 3 (l.map pxR)) 1)]) (H':=[some (⟨.pb [],0,none,0,true,false,0⟩:AM.Obj)])
 ·generalize l.map pxR = R at *
  (refine ⟨0,?_⟩;simp (maxSteps:=2000000) -implicitDefEqProofs [-getElem?_pos,go_sem,eqV,aj,aC,rowOf,AO])
 apply au.seq (fr':=[(0,.ro c (.pr 3 (l.map pxR)) 1),(4,.sl 1 0 0 0)]) (H':=[some (⟨.pb [],0,none,0,true,false,0⟩:AM.Obj),some (⟨.pb [],0,none,0,true,false,0⟩:AM.Obj)])
 ·generalize l.map pxR = R at *
  (refine ⟨0,?_⟩;simp (maxSteps:=2000000) -implicitDefEqProofs [-getElem?_pos,go_sem,eqV,aj,aC,rowOf,AO])
 have hE:([some (⟨.pb [],0,none,0,true,false,0⟩:AM.Obj),some (⟨.pb [],0,none,0,true,false,0⟩:AM.Obj)]:AM.Heap)[1]? = some (some ⟨.pb [],0,none,0,true,false,0⟩):=rfl
 generalize [some (⟨.pb [],0,none,0,true,false,0⟩:AM.Obj),some (⟨.pb [],0,none,0,true,false,0⟩:AM.Obj)] = E0 at *
 apply au.assoc
 apply au.seq (fr':=mM (.sl 1 0 0 0) c l 0) (H':=E0)
 ·have hll:(l.map pxR).length = l.length:=by simp
  simp only [mM]
  generalize l.map pxR = R at *
  generalize l.length = N at *
  (refine ⟨0,?_⟩;simp (maxSteps:=2000000) -implicitDefEqProofs [-getElem?_pos,go_sem,eqV,aj,hll])
 refine au.Eh (P:=fun fr E=>∃ o g ob,jY l [] = (o,0)∧aI fr 4 = .sl 1 0 o.length g∧E[1]? = some (some ob)∧Rw (.pb o) g ob) ?_ ?_
 ·refine au.lJ (I:=fun k fr E'=>∃ i o g ob,i≤l.length∧k = l.length - i∧fr = mM (.sl 1 0 o.length g) c l i∧E'[1]? = some (some ob)∧Rw (.pb o) g ob∧o.length≤258 * i∧jY (l.drop i) o = jY l []) ?_ (k:=l.length) ⟨0,[],0,_,by omega,rfl,rfl,hE,⟨rfl,rfl,rfl,rfl,rfl⟩,by simp,rfl⟩
  rintro k fr E' ⟨i,o,g,ob,hi,rfl,rfl,ho,hw,hol,he⟩
  by_cases hin:i = l.length
  ·rw [List.drop_of_length_le (by omega),jY] at he
   refine au.of (o:=⟨.exit 0,mM (.sl 1 0 o.length g) c l i ++ [(10,.bool false)],E'⟩) ?_ (.inr ⟨by simp,.inl ⟨rfl,o,g,ob,he.symm,by simp [mM,aI],ho,hw⟩⟩)
   subst hin
   refine ⟨0,?_⟩
   simp only [mM]
   generalize l.map pxR = R at *
   generalize l.length = N at *
   generalize o.length = K at *
   simp (maxSteps:=2000000) -implicitDefEqProofs [-getElem?_pos,go_sem,eqV,aj]
  ·have hlt:i < l.length:=by omega
   have jB:(i:Int) < (l.length:Int):=by omega
   obtain ⟨x,hx⟩:∃ x,l[i]? = some x:=⟨_,List.getElem?_eq_getElem hlt⟩
   apply au.seq (fr':=mM (.sl 1 0 o.length g) c l i ++ [(10,.bool true)]) (H':=E')
   ·simp only [mM]
    generalize l.map pxR = R at *
    generalize l.length = N at *
    generalize o.length = K at *
    (refine ⟨0,?_⟩;simp (maxSteps:=2000000) -implicitDefEqProofs [-getElem?_pos,go_sem,eqV,aj,jB,hlt])
   apply au.seq (fr':=mM (.sl 1 0 o.length g) c l i ++ [(10,.bool true)]) (H':=E')
   ·exact Run.cond (d:=true) (by simp [mM,aK,aI]) ⟨0,rfl⟩
   refine (piece (Q8 (m:=m) (c:=c) hx hl ho hw hol he) _ rfl).mono ?_
   rintro out (⟨h1,o',g',ob',h2,h3,h4,h5,h6⟩ | ⟨h1,h2⟩)
   ·exact .inl ⟨h1,l.length - (i + 1),by omega,i + 1,o',g',ob',by omega,rfl,h2,h3,h4,h5,h6⟩
   ·exact .inr ⟨by rw [h1];simp,.inr ⟨h1,h1,h2⟩⟩
 ·rintro fr E' ⟨o,g,ob,he,h4,ho,hw⟩
  refine au.of (o:=⟨.ret,[(2,.sl 1 0 o.length g),(3,.int .i64 0)],E'⟩) ?_ ⟨rfl,o,0,1,g,ob,he,rfl,rfl,ho,hw⟩
  refine ⟨0,?_⟩
  generalize o.length = K at *
  simp (maxSteps:=2000000) -implicitDefEqProofs [-getElem?_pos,go_sem,eqV,aj,h4,aC]
theorem Nj {H:AM.Heap} {a:AV} (ha:iD H a = some (.pr 3 (l.map pxR))) (hl:l.length≤2000):∃ ob,Rw (.pb (jY l []).1) 0 ob∧evT X 14 [a] H = some (.tup [.sl H.length 0 (jY l []).1.length 0,.int .i64 (jY l []).2],H ++ [some ob]):=by
 obtain ⟨c,x,hx⟩:=fJ (C:=X) (f:=14) (i:=0) rfl ha (dQ 1)
 obtain ⟨code,hc,⟨out,⟨ho,o,e,a2,g,ob,h1,h2,h3,h4,hw⟩,hrun⟩⟩:=He (m:=0) (c:=c) (l:=l) hl
 rw [h1]
 obtain ⟨ob',q1,q2⟩:=Ev1.Fq (C:=X) (H:=H) (bJ X) (n:=o.length) (l:=o) (rest:=[.int .i64 e]) Try.func14 hc hx rfl (by simp [dJ]) rfl rfl rfl (by
  rw [VI]
  refine ⟨out,⟨ho,a2,g,ob,?_,h4,hw⟩,hrun⟩
  show bf X out.fr out.H [.tmp 2,.tmp 3] = _
  simp [bf,h2,h3])
 exact ⟨ob',q1,eH (by simpa [aW,gG] using q2)⟩
end
end Go.Proofs.Yteblpjhkgdpchaa
namespace Go.Proofs.Yteblpjhkgdpchaa
open Go.AM
def gF (per n:Nat):Nat→Nat→Nat→Nat→Nat→Nat × Nat × Nat
 | 0,s,base,bits,_=>(s,base,bits)
 | f + 1,s,base,bits,j=>if j = per then gF per n f s base (bits + 1) 0 else if n < base + 2 ^ bits then (s,base,bits) else gF per n f (s + 1) (base + 2 ^ bits) bits (j + 1)
def gOk (per n:Nat):Nat→Nat→Nat→Nat→Nat→Bool
 | 0,_,_,_,_=>false
 | f + 1,s,base,bits,j=>if j = per then gOk per n f s base (bits + 1) 0 else if n < base + 2 ^ bits then true else gOk per n f (s + 1) (base + 2 ^ bits) bits (j + 1)
def dS (n s base bits:Nat):AM.Frame:=[(0,.int .i64 (n:Nat)),(2,.int .i64 (s:Nat)),(3,.int .i64 (base:Nat)),(4,.int .i64 (bits:Nat))]
theorem OG {bits:Nat} (h:bits≤40):IntKind.i64.wrap (2 ^ min bits 64) = ((2 ^ bits:Nat):Int):=by
 rw [Nat.min_eq_left (by omega)]
 have h1:2 ^ bits≤2 ^ 40:=Nat.pow_le_pow_right (by omega) h
 have h2:(2:Int) ^ bits = ((2 ^ bits:Nat):Int):=by push_cast;rfl
 rw [h2]
 generalize 2 ^ bits = u at *
 exact wrap_i64 (by omega) (by omega)
theorem Q9 {m n s base bits j:Nat} {E:AM.Heap} (hn:n≤100000) (hs:s≤1000) (uh:bits≤40) (hb:base≤n + 100000) (hj:j < 4) :
  ∃ code,((Try.f33.body).bind (aS [1,1,1,1,1,0,0,0,0,1,0,0,1,1])) = some code∧Run X (evT X) 33 m code (dS n s base bits ++ [(15,.int .i64 (j:Nat)),(16,.bool true)]) E (if n < base + 2 ^ bits then ⟨.ret,[(2,.int .i64 (s:Nat)),(3,.int .i64 (base:Nat)),(4,.int .i64 (bits:Nat))],E⟩ else ⟨.normal,dS n (s + 1) (base + 2 ^ bits) bits ++ [(15,.int .i64 (j + 1:Nat))],E⟩):=by
 refine ⟨_,rfl,?_⟩
 have h1:2 ^ bits≤2 ^ 40:=Nat.pow_le_pow_right (by omega) uh
 have hp:=OG uh
 generalize 2 ^ bits = pw at *
 have hb0:¬ (bits:Int) < 0:=by omega
 have w1:IntKind.i64.wrap ((base:Int) + ((pw:Nat):Int)) = ((base + pw:Nat):Int):=by rw [wrap_i64 (by omega) (by omega)];omega
 have w2:IntKind.i64.wrap ((s:Int) + 1) = ((s + 1:Nat):Int):=by rw [wrap_i64 (by omega) (by omega)];omega
 have w3:IntKind.i64.wrap ((j:Int) + 1) = ((j + 1:Nat):Int):=by rw [wrap_i64 (by omega) (by omega)];omega
 by_cases h:n < base + pw
 ·rw [if_pos h]
  have hI:(n:Int) < ((base + pw:Nat):Int):=by omega
  generalize base + pw = nb at *
  refine Run.bH ?_ (by simp)
  refine Run.block ?_ (by simp)
  refine Run.bH ?_ (by simp)
  apply Run.seq (fr':=dS n s base bits ++ [(15,.int .i64 (j:Nat)),(22,.bool true)]) (H':=E)
  ·simp only [dS]
   (refine ⟨0,?_⟩;simp (maxSteps:=2000000) -implicitDefEqProofs [-getElem?_pos,go_sem,eqV,aj,hp,hb0,w1,hI,h])
  refine Run.cond (d:=true) (by simp [dS,aK,aI]) ?_
  apply Run.seq (fr':=[(2,.int .i64 (s:Nat)),(3,.int .i64 (base:Nat)),(4,.int .i64 (bits:Nat))]) (H':=E)
  ·simp only [dS]
   (refine ⟨0,?_⟩;simp (maxSteps:=2000000) -implicitDefEqProofs [-getElem?_pos,go_sem,eqV,aj,aC])
  ·exact ⟨0,rfl⟩
 ·rw [if_neg h]
  have hI:¬ (n:Int) < ((base + pw:Nat):Int):=by omega
  generalize base + pw = nb at *
  generalize s + 1 = s1 at *
  generalize j + 1 = j1 at *
  apply Run.seq (fr':=dS n s1 nb bits ++ [(15,.int .i64 (j:Nat))]) (H':=E)
  ·refine Run.block ?_ (by simp)
   apply Run.seq (fr':=dS n s base bits ++ [(15,.int .i64 (j:Nat)),(22,.bool false)]) (H':=E)
   ·apply Run.seq (fr':=dS n s base bits ++ [(15,.int .i64 (j:Nat)),(22,.bool false)]) (H':=E)
    ·simp only [dS]
     (refine ⟨0,?_⟩;simp (maxSteps:=2000000) -implicitDefEqProofs [-getElem?_pos,go_sem,eqV,aj,hp,hb0,w1,hI,h])
    ·exact Run.cond (d:=false) (by simp [dS,aK,aI]) ⟨0,rfl⟩
   ·simp only [dS]
    (refine ⟨0,?_⟩;simp (maxSteps:=2000000) -implicitDefEqProofs [-getElem?_pos,go_sem,eqV,aj,hp,hb0,w1,w2,aC])
  ·simp only [dS]
   (refine ⟨0,?_⟩;simp (maxSteps:=2000000) -implicitDefEqProofs [-getElem?_pos,go_sem,eqV,aj,w3])
def lnR (R:Nat × Nat × Nat):AM.Frame:=[(2,.int .i64 (R.1:Nat)),(3,.int .i64 (R.2.1:Nat)),(4,.int .i64 (R.2.2:Nat))]
theorem VJ {m n s base bits f:Nat} {R:Nat × Nat × Nat} {E:AM.Heap} (hn:n≤100000) (hs:s + f≤900) (uh:bits + f≤41) (hb:base≤n + 100000) (hok:gOk 4 n f s base bits 0 = true) (hR:gF 4 n f s base bits 0 = R) :
  ∃ code,((Try.f33.body).bind (aS [1,1,1,1,1,0,0,0,0,1])) = some code∧au (fun o=>(o.ex = .normal∧o.H = E∧∃ s' base' f',f' < f∧s' + f'≤900∧bits + 1 + f'≤41∧base'≤n + 100000∧bZ [0,2,3,4] o.fr = dS n s' base' bits∧gOk 4 n f' s' base' (bits + 1) 0 = true∧gF 4 n f' s' base' (bits + 1) 0 = R)∨(o.ex = .ret∧o.fr = lnR R∧o.H = E)) X (evT X) 33 m code (dS n s base bits ++ [(15,.int .i64 (0:Nat))]) E:=by
 refine ⟨_,rfl,?_⟩
 refine au.mono (au.LG (P:=fun fr H=>H = E∧∃ s' base' f',f' < f∧s' + f'≤900∧bits + 1 + f'≤41∧base'≤n + 100000∧bZ [0,2,3,4] fr = dS n s' base' bits∧gOk 4 n f' s' base' (bits + 1) 0 = true∧gF 4 n f' s' base' (bits + 1) 0 = R) (Q:=fun o=>o.ex = .ret∧o.fr = lnR R∧o.H = E) ?_) ?_
 ·refine au.lJ (I:=fun k fr H=>∃ s' base' j,k≤f∧s' + k≤900∧base'≤n + 100000∧j≤4∧fr = dS n s' base' bits ++ [(15,.int .i64 (j:Nat))]∧H = E∧gOk 4 n k s' base' bits j = true∧gF 4 n k s' base' bits j = R) ?_ (k:=f) ⟨s,base,0,by omega,hs,hb,by omega,rfl,rfl,hok,hR⟩
  rintro k fr H ⟨s',base',j,hk,hsk,hb',hj,rfl,rfl,hok',hR'⟩
  cases k with
  | zero=>simp [gOk] at hok'
  | succ k =>
   rw [gOk] at hok'
   rw [gF] at hR'
   by_cases hj4:j = 4
   ·subst hj4
    rw [if_pos rfl] at hok' hR'
    refine au.of (o:=⟨.exit 2,dS n s' base' bits ++ [(15,.int .i64 (4:Nat)),(16,.bool false)],H⟩) ?_ (.inr ⟨by simp,.inl ⟨rfl,rfl,s',base',k,by omega,by omega,by omega,hb',by simp [dS,bZ,aI],hok',hR'⟩⟩)
    refine ⟨0,?_⟩
    simp only [dS]
    simp (maxSteps:=2000000) -implicitDefEqProofs [-getElem?_pos,go_sem,eqV,aj]
   ·rw [if_neg hj4] at hok' hR'
    have hjl:j < 4:=by omega
    have hjI:(j:Int) < 4:=by omega
    have hst:=Q9 (m:=m) (E:=H) (s:=s') (base:=base') (bits:=bits) (j:=j) hn (by omega) (by omega) hb' hjl
    by_cases hlt:n < base' + 2 ^ bits
    ·rw [if_pos hlt] at hok' hR' hst
     subst hR'
     refine au.of (o:=⟨.ret,lnR (s',base',bits),H⟩) ?_ (.inr ⟨by simp,.inr ⟨rfl,rfl,rfl,rfl⟩⟩)
     apply Run.seq (fr':=dS n s' base' bits ++ [(15,.int .i64 (j:Nat)),(16,.bool true)]) (H':=H)
     ·simp only [dS]
      (refine ⟨0,?_⟩;simp (maxSteps:=2000000) -implicitDefEqProofs [-getElem?_pos,go_sem,eqV,aj,hjI,hjl])
     apply Run.seq (fr':=dS n s' base' bits ++ [(15,.int .i64 (j:Nat)),(16,.bool true)]) (H':=H)
     ·exact Run.cond (d:=true) (by simp [dS,aK,aI]) ⟨0,rfl⟩
     exact piece hst _ rfl
    ·rw [if_neg hlt] at hok' hR' hst
     refine au.of (o:=⟨.normal,dS n (s' + 1) (base' + 2 ^ bits) bits ++ [(15,.int .i64 (j + 1:Nat))],H⟩) ?_ (.inl ⟨rfl,k,by omega,s' + 1,base' + 2 ^ bits,j + 1,by omega,by omega,by omega,by omega,rfl,rfl,hok',hR'⟩)
     apply Run.seq (fr':=dS n s' base' bits ++ [(15,.int .i64 (j:Nat)),(16,.bool true)]) (H':=H)
     ·simp only [dS]
      (refine ⟨0,?_⟩;simp (maxSteps:=2000000) -implicitDefEqProofs [-getElem?_pos,go_sem,eqV,aj,hjI,hjl])
     apply Run.seq (fr':=dS n s' base' bits ++ [(15,.int .i64 (j:Nat)),(16,.bool true)]) (H':=H)
     ·exact Run.cond (d:=true) (by simp [dS,aK,aI]) ⟨0,rfl⟩
     exact piece hst _ rfl
 ·rintro o (⟨h1,h2⟩ | ⟨h1,h2⟩)
  ·exact .inl ⟨h1,h2⟩
  ·exact .inr h2
def lenOf (n:Nat):Nat × Nat × Nat:=if n = 258 then (285,n,0) else if n≤10 then (254 + n,n,0) else gF 4 n 40 265 11 1 0
theorem xZ {per n n':Nat} (h:n≤n'):∀ (f s base bits j:Nat),gOk per n' f s base bits j = true→gOk per n f s base bits j = true
 | 0,_,_,_,_,h1=>by cases h1
 | f + 1,s,base,bits,j,h1=>by
  unfold gOk at h1 ⊢
  split
  ·rename_i hj
   rw [if_pos hj] at h1
   exact xZ h f _ _ _ _ h1
  ·rename_i hj
   rw [if_neg hj] at h1
   split
   ·rfl
   ·rename_i hn
    rw [if_neg (by omega)] at h1
    exact xZ h f _ _ _ _ h1
theorem TV {n:Nat} (h:n≤258):gOk 4 n 40 265 11 1 0 = true:=xZ h _ _ _ _ _ (by decide +kernel)
theorem Hf {m n:Nat} {E:AM.Heap} (h:n≤258):∃ code,Try.f33.body = some code∧au (fun o=>o.ex = .ret∧o.fr = lnR (lenOf n)∧o.H = E) X (evT X) 33 m code [(0,.int .i64 (n:Nat))] E:=by
 refine ⟨_,rfl,?_⟩
 unfold lenOf
 apply au.seq (fr':=[(0,.int .i64 (n:Nat))]) (H':=E)
 ·(refine ⟨0,?_⟩;simp (maxSteps:=2000000) -implicitDefEqProofs [-getElem?_pos,go_sem,eqV,aj,aC])
 by_cases h1:n = 258
 ·subst h1
  rw [if_pos rfl]
  refine au.of (o:=⟨.ret,lnR (285,258,0),E⟩) ?_ ⟨rfl,rfl,rfl⟩
  refine ⟨0,?_⟩
  simp only [lnR]
  simp (maxSteps:=2000000) -implicitDefEqProofs [-getElem?_pos,go_sem,eqV,aj,aC]
 have h1I:¬ (n:Int) = 258:=by omega
 have h1b:((n:Int) == 258) = false:=by simpa using h1I
 rw [if_neg h1]
 apply au.assoc
 apply au.seq (fr':=[(0,.int .i64 (n:Nat)),(6,.bool false)]) (H':=E)
 ·(refine ⟨0,?_⟩;simp (maxSteps:=2000000) -implicitDefEqProofs [-getElem?_pos,go_sem,eqV,aj,h1,h1I,h1b])
 apply au.seq (fr':=[(0,.int .i64 (n:Nat)),(6,.bool false)]) (H':=E)
 ·exact Run.cond (d:=false) (by simp [aK,aI]) ⟨0,rfl⟩
 by_cases h2:n≤10
 ·rw [if_pos h2]
  have h2I:(n:Int)≤10:=by omega
  have w1:IntKind.i64.wrap (254 + (n:Int)) = ((254 + n:Nat):Int):=by rw [wrap_i64 (by omega) (by omega)];omega
  refine au.of (o:=⟨.ret,lnR (254 + n,n,0),E⟩) ?_ ⟨rfl,rfl,rfl⟩
  refine ⟨0,?_⟩
  simp only [lnR]
  generalize 254 + n = s at *
  simp (maxSteps:=2000000) -implicitDefEqProofs [-getElem?_pos,go_sem,eqV,aj,h2,h2I,w1,aC]
 rw [if_neg h2]
 have h2I:¬ (n:Int)≤10:=by omega
 apply au.assoc
 apply au.seq (fr':=[(0,.int .i64 (n:Nat)),(9,.bool false)]) (H':=E)
 ·(refine ⟨0,?_⟩;simp (maxSteps:=2000000) -implicitDefEqProofs [-getElem?_pos,go_sem,eqV,aj,h2,h2I])
 apply au.seq (fr':=[(0,.int .i64 (n:Nat)),(9,.bool false)]) (H':=E)
 ·exact Run.cond (d:=false) (by simp [aK,aI]) ⟨0,rfl⟩
 apply au.seq (fr':=[(0,.int .i64 (n:Nat)),(2,.int .i64 265),(3,.int .i64 11)]) (H':=E)
 ·(refine ⟨0,?_⟩;simp (maxSteps:=2000000) -implicitDefEqProofs [-getElem?_pos,go_sem,eqV,aj,aC])
 apply au.seq (fr':=dS n 265 11 1) (H':=E)
 ·simp only [dS]
  (refine ⟨0,?_⟩;simp (maxSteps:=2000000) -implicitDefEqProofs [-getElem?_pos,go_sem,eqV,aj,aC])
 refine au.blk ?_ (fun o ho=>by rw [ho.1];simp)
 refine au.lJ (I:=fun k fr H=>∃ s base bits,s + k≤900∧bits + k≤41∧base≤n + 100000∧fr = dS n s base bits∧H = E∧gOk 4 n k s base bits 0 = true∧gF 4 n k s base bits 0 = gF 4 n 40 265 11 1 0) ?_ (k:=40) ⟨265,11,1,by omega,by omega,by omega,rfl,rfl,TV h,rfl⟩
 rintro k fr H ⟨s,base,bits,hs,uh,hb,rfl,rfl,hok,hR⟩
 generalize gF 4 n 40 265 11 1 0 = R at *
 have h8:∃ code,((Try.f33.body).bind (aS [1,1,1,1,1,0,0,0,0,0])) = some code∧Run X (evT X) 33 m code (dS n s base bits) H ⟨.normal,dS n s base bits ++ [(15,.int .i64 (0:Nat))],H⟩:=by
  refine ⟨_,rfl,?_⟩
  simp only [dS]
  (refine ⟨0,?_⟩;simp (maxSteps:=2000000) -implicitDefEqProofs [-getElem?_pos,go_sem,eqV,aj])
 obtain ⟨OE,hcB,⟨ex,fr,H2⟩,hq,hrB⟩:=VJ (m:=m) (E:=H) (by omega) hs uh hb hok hR
 rcases hq with ⟨h3,h4,s',base',f',k1,k2,k3,k4,k5,k6,k7⟩ | ⟨h3,h4,h5⟩
 ·simp only at h3 h4 k5
  subst h3 h4
  have g0:aI fr 0 = .int .i64 (n:Nat):=by simpa [bZ,dS,aI] using congrArg (fun f=>aI f 0) k5
  have g2:aI fr 2 = .int .i64 (s':Nat):=by simpa [bZ,dS,aI] using congrArg (fun f=>aI f 2) k5
  have g3:aI fr 3 = .int .i64 (base':Nat):=by simpa [bZ,dS,aI] using congrArg (fun f=>aI f 3) k5
  have g4:aI fr 4 = .int .i64 (bits:Nat):=by simpa [bZ,dS,aI] using congrArg (fun f=>aI f 4) k5
  refine au.of (o:=⟨.normal,dS n s' base' (bits + 1),H2⟩) ?_ (.inl ⟨rfl,f',k1,s',base',bits + 1,k2,k3,k4,rfl,rfl,k6,k7⟩)
  apply Run.seq (fr':=fr) (H':=H2)
  ·refine Run.block ?_ (by simp)
   exact Run.seq (piece h8 _ rfl) ((Option.some.inj hcB) ▸ hrB)
  ·have w1:IntKind.i64.wrap ((bits:Int) + 1) = ((bits + 1:Nat):Int):=by rw [wrap_i64 (by omega) (by omega)];omega
   generalize bits + 1 = b1 at *
   simp only [dS]
   (refine ⟨0,?_⟩;simp (maxSteps:=2000000) -implicitDefEqProofs [-getElem?_pos,go_sem,eqV,aj,g0,g2,g3,g4,w1,aC])
 ·simp only at h3 h4 h5
  subst h3 h4 h5
  refine au.of (o:=⟨.ret,lnR R,H2⟩) ?_ (.inr ⟨by simp,rfl,rfl,rfl⟩)
  refine Run.bH ?_ (by simp)
  refine Run.block ?_ (by simp)
  exact Run.seq (piece h8 _ rfl) ((Option.some.inj hcB) ▸ hrB)
theorem Nk {n:Nat} {H:AM.Heap} (h:n≤258):evT X 33 [.int .i64 (n:Nat)] H = some (.tup [.int .i64 ((lenOf n).1:Nat),.int .i64 ((lenOf n).2.1:Nat),.int .i64 ((lenOf n).2.2:Nat)],H):=by
 obtain ⟨code,hc,⟨out,⟨h1,h2,h3⟩,hr⟩⟩:=Hf (m:=0) (E:=[]) h
 have hx:=iM (C:=X) (f:=33) (i:=0) (a:=.int .i64 (n:Nat)) (H:=H) rfl rfl (dQ 1)
 refine eH (Ev1.pR (l:=[.int .i64 ((lenOf n).1:Nat),.int .i64 ((lenOf n).2.1:Nat),.int .i64 ((lenOf n).2.2:Nat)]) (bJ X) Try.func33 hc hx rfl (by simp [dJ]) rfl rfl rfl ?_)
 rw [VK]
 refine ⟨out,⟨h1,?_⟩,hr⟩
 show bf X out.fr out.H [.tmp 2,.tmp 3,.tmp 4] = _
 rw [h2]
 rfl
end Go.Proofs.Yteblpjhkgdpchaa
namespace Go.Proofs.Yteblpjhkgdpchaa
open Go.AM
theorem Rf {m n s base bits j:Nat} {E:AM.Heap} (hn:n≤100000) (hs:s≤1000) (uh:bits≤40) (hb:base≤n + 100000) (hj:j < 2) :
  ∃ code,((Try.f34.body).bind (aS [1,1,1,1,0,0,0,0,1,0,0,1,1])) = some code∧Run X (evT X) 34 m code (dS n s base bits ++ [(12,.int .i64 (j:Nat)),(13,.bool true)]) E (if n < base + 2 ^ bits then ⟨.ret,[(2,.int .i64 (s:Nat)),(3,.int .i64 (base:Nat)),(4,.int .i64 (bits:Nat))],E⟩ else ⟨.normal,dS n (s + 1) (base + 2 ^ bits) bits ++ [(12,.int .i64 (j + 1:Nat))],E⟩):=by
 refine ⟨_,rfl,?_⟩
 have h1:2 ^ bits≤2 ^ 40:=Nat.pow_le_pow_right (by omega) uh
 have hp:=OG uh
 generalize 2 ^ bits = pw at *
 have hb0:¬ (bits:Int) < 0:=by omega
 have w1:IntKind.i64.wrap ((base:Int) + ((pw:Nat):Int)) = ((base + pw:Nat):Int):=by rw [wrap_i64 (by omega) (by omega)];omega
 have w2:IntKind.i64.wrap ((s:Int) + 1) = ((s + 1:Nat):Int):=by rw [wrap_i64 (by omega) (by omega)];omega
 have w3:IntKind.i64.wrap ((j:Int) + 1) = ((j + 1:Nat):Int):=by rw [wrap_i64 (by omega) (by omega)];omega
 by_cases h:n < base + pw
 ·rw [if_pos h]
  have hI:(n:Int) < ((base + pw:Nat):Int):=by omega
  generalize base + pw = nb at *
  refine Run.bH ?_ (by simp)
  refine Run.block ?_ (by simp)
  refine Run.bH ?_ (by simp)
  apply Run.seq (fr':=dS n s base bits ++ [(12,.int .i64 (j:Nat)),(19,.bool true)]) (H':=E)
  ·simp only [dS]
   (refine ⟨0,?_⟩;simp (maxSteps:=2000000) -implicitDefEqProofs [-getElem?_pos,go_sem,eqV,aj,hp,hb0,w1,hI,h])
  refine Run.cond (d:=true) (by simp [dS,aK,aI]) ?_
  apply Run.seq (fr':=[(2,.int .i64 (s:Nat)),(3,.int .i64 (base:Nat)),(4,.int .i64 (bits:Nat))]) (H':=E)
  ·simp only [dS]
   (refine ⟨0,?_⟩;simp (maxSteps:=2000000) -implicitDefEqProofs [-getElem?_pos,go_sem,eqV,aj,aC])
  ·exact ⟨0,rfl⟩
 ·rw [if_neg h]
  have hI:¬ (n:Int) < ((base + pw:Nat):Int):=by omega
  generalize base + pw = nb at *
  generalize s + 1 = s1 at *
  generalize j + 1 = j1 at *
  apply Run.seq (fr':=dS n s1 nb bits ++ [(12,.int .i64 (j:Nat))]) (H':=E)
  ·refine Run.block ?_ (by simp)
   apply Run.seq (fr':=dS n s base bits ++ [(12,.int .i64 (j:Nat)),(19,.bool false)]) (H':=E)
   ·apply Run.seq (fr':=dS n s base bits ++ [(12,.int .i64 (j:Nat)),(19,.bool false)]) (H':=E)
    ·simp only [dS]
     (refine ⟨0,?_⟩;simp (maxSteps:=2000000) -implicitDefEqProofs [-getElem?_pos,go_sem,eqV,aj,hp,hb0,w1,hI,h])
    ·exact Run.cond (d:=false) (by simp [dS,aK,aI]) ⟨0,rfl⟩
   ·simp only [dS]
    (refine ⟨0,?_⟩;simp (maxSteps:=2000000) -implicitDefEqProofs [-getElem?_pos,go_sem,eqV,aj,hp,hb0,w1,w2,aC])
  ·simp only [dS]
   (refine ⟨0,?_⟩;simp (maxSteps:=2000000) -implicitDefEqProofs [-getElem?_pos,go_sem,eqV,aj,w3])
theorem VL {m n s base bits f:Nat} {R:Nat × Nat × Nat} {E:AM.Heap} (hn:n≤100000) (hs:s + f≤900) (uh:bits + f≤41) (hb:base≤n + 100000) (hok:gOk 2 n f s base bits 0 = true) (hR:gF 2 n f s base bits 0 = R) :
  ∃ code,((Try.f34.body).bind (aS [1,1,1,1,0,0,0,0,1])) = some code∧au (fun o=>(o.ex = .normal∧o.H = E∧∃ s' base' f',f' < f∧s' + f'≤900∧bits + 1 + f'≤41∧base'≤n + 100000∧bZ [0,2,3,4] o.fr = dS n s' base' bits∧gOk 2 n f' s' base' (bits + 1) 0 = true∧gF 2 n f' s' base' (bits + 1) 0 = R)∨(o.ex = .ret∧o.fr = lnR R∧o.H = E)) X (evT X) 34 m code (dS n s base bits ++ [(12,.int .i64 (0:Nat))]) E:=by
 refine ⟨_,rfl,?_⟩
 refine au.mono (au.LG (P:=fun fr H=>H = E∧∃ s' base' f',f' < f∧s' + f'≤900∧bits + 1 + f'≤41∧base'≤n + 100000∧bZ [0,2,3,4] fr = dS n s' base' bits∧gOk 2 n f' s' base' (bits + 1) 0 = true∧gF 2 n f' s' base' (bits + 1) 0 = R) (Q:=fun o=>o.ex = .ret∧o.fr = lnR R∧o.H = E) ?_) ?_
 ·refine au.lJ (I:=fun k fr H=>∃ s' base' j,k≤f∧s' + k≤900∧base'≤n + 100000∧j≤2∧fr = dS n s' base' bits ++ [(12,.int .i64 (j:Nat))]∧H = E∧gOk 2 n k s' base' bits j = true∧gF 2 n k s' base' bits j = R) ?_ (k:=f) ⟨s,base,0,by omega,hs,hb,by omega,rfl,rfl,hok,hR⟩
  rintro k fr H ⟨s',base',j,hk,hsk,hb',hj,rfl,rfl,hok',hR'⟩
  cases k with
  | zero=>simp [gOk] at hok'
  | succ k =>
   rw [gOk] at hok'
   rw [gF] at hR'
   by_cases hj2:j = 2
   ·subst hj2
    rw [if_pos rfl] at hok' hR'
    refine au.of (o:=⟨.exit 2,dS n s' base' bits ++ [(12,.int .i64 (2:Nat)),(13,.bool false)],H⟩) ?_ (.inr ⟨by simp,.inl ⟨rfl,rfl,s',base',k,by omega,by omega,by omega,hb',by simp [dS,bZ,aI],hok',hR'⟩⟩)
    refine ⟨0,?_⟩
    simp only [dS]
    simp (maxSteps:=2000000) -implicitDefEqProofs [-getElem?_pos,go_sem,eqV,aj]
   ·rw [if_neg hj2] at hok' hR'
    have hjl:j < 2:=by omega
    have hjI:(j:Int) < 2:=by omega
    have hst:=Rf (m:=m) (E:=H) (s:=s') (base:=base') (bits:=bits) (j:=j) hn (by omega) (by omega) hb' hjl
    by_cases hlt:n < base' + 2 ^ bits
    ·rw [if_pos hlt] at hok' hR' hst
     subst hR'
     refine au.of (o:=⟨.ret,lnR (s',base',bits),H⟩) ?_ (.inr ⟨by simp,.inr ⟨rfl,rfl,rfl,rfl⟩⟩)
     apply Run.seq (fr':=dS n s' base' bits ++ [(12,.int .i64 (j:Nat)),(13,.bool true)]) (H':=H)
     ·simp only [dS]
      (refine ⟨0,?_⟩;simp (maxSteps:=2000000) -implicitDefEqProofs [-getElem?_pos,go_sem,eqV,aj,hjI,hjl])
     apply Run.seq (fr':=dS n s' base' bits ++ [(12,.int .i64 (j:Nat)),(13,.bool true)]) (H':=H)
     ·exact Run.cond (d:=true) (by simp [dS,aK,aI]) ⟨0,rfl⟩
     exact piece hst _ rfl
    ·rw [if_neg hlt] at hok' hR' hst
     refine au.of (o:=⟨.normal,dS n (s' + 1) (base' + 2 ^ bits) bits ++ [(12,.int .i64 (j + 1:Nat))],H⟩) ?_ (.inl ⟨rfl,k,by omega,s' + 1,base' + 2 ^ bits,j + 1,by omega,by omega,by omega,by omega,rfl,rfl,hok',hR'⟩)
     apply Run.seq (fr':=dS n s' base' bits ++ [(12,.int .i64 (j:Nat)),(13,.bool true)]) (H':=H)
     ·simp only [dS]
      (refine ⟨0,?_⟩;simp (maxSteps:=2000000) -implicitDefEqProofs [-getElem?_pos,go_sem,eqV,aj,hjI,hjl])
     apply Run.seq (fr':=dS n s' base' bits ++ [(12,.int .i64 (j:Nat)),(13,.bool true)]) (H':=H)
     ·exact Run.cond (d:=true) (by simp [dS,aK,aI]) ⟨0,rfl⟩
     exact piece hst _ rfl
 ·rintro o (⟨h1,h2⟩ | ⟨h1,h2⟩)
  ·exact .inl ⟨h1,h2⟩
  ·exact .inr h2
def bU (n:Nat):Nat × Nat × Nat:=if n≤4 then (n - 1,n,0) else gF 2 n 40 4 5 1 0
theorem Fv {n:Nat} (h:n≤32768):gOk 2 n 40 4 5 1 0 = true:=xZ h _ _ _ _ _ (by decide +kernel)
theorem DN {m n:Nat} {E:AM.Heap} (h0:1≤n) (h:n≤32768):∃ code,Try.f34.body = some code∧au (fun o=>o.ex = .ret∧o.fr = lnR (bU n)∧o.H = E) X (evT X) 34 m code [(0,.int .i64 (n:Nat))] E:=by
 refine ⟨_,rfl,?_⟩
 unfold bU
 apply au.seq (fr':=[(0,.int .i64 (n:Nat))]) (H':=E)
 ·(refine ⟨0,?_⟩;simp (maxSteps:=2000000) -implicitDefEqProofs [-getElem?_pos,go_sem,eqV,aj,aC])
 by_cases h2:n≤4
 ·rw [if_pos h2]
  have h2I:(n:Int)≤4:=by omega
  have w1:IntKind.i64.wrap ((n:Int) - 1) = ((n - 1:Nat):Int):=by rw [wrap_i64 (by omega) (by omega)];omega
  refine au.of (o:=⟨.ret,lnR (n - 1,n,0),E⟩) ?_ ⟨rfl,rfl,rfl⟩
  refine ⟨0,?_⟩
  simp only [lnR]
  generalize n - 1 = s at *
  simp (maxSteps:=2000000) -implicitDefEqProofs [-getElem?_pos,go_sem,eqV,aj,h2,h2I,w1,aC]
 rw [if_neg h2]
 have h2I:¬ (n:Int)≤4:=by omega
 apply au.assoc
 apply au.seq (fr':=[(0,.int .i64 (n:Nat)),(6,.bool false)]) (H':=E)
 ·(refine ⟨0,?_⟩;simp (maxSteps:=2000000) -implicitDefEqProofs [-getElem?_pos,go_sem,eqV,aj,h2,h2I])
 apply au.seq (fr':=[(0,.int .i64 (n:Nat)),(6,.bool false)]) (H':=E)
 ·exact Run.cond (d:=false) (by simp [aK,aI]) ⟨0,rfl⟩
 apply au.seq (fr':=[(0,.int .i64 (n:Nat)),(2,.int .i64 4),(3,.int .i64 5)]) (H':=E)
 ·(refine ⟨0,?_⟩;simp (maxSteps:=2000000) -implicitDefEqProofs [-getElem?_pos,go_sem,eqV,aj,aC])
 apply au.seq (fr':=dS n 4 5 1) (H':=E)
 ·simp only [dS]
  (refine ⟨0,?_⟩;simp (maxSteps:=2000000) -implicitDefEqProofs [-getElem?_pos,go_sem,eqV,aj,aC])
 refine au.blk ?_ (fun o ho=>by rw [ho.1];simp)
 refine au.lJ (I:=fun k fr H=>∃ s base bits,s + k≤900∧bits + k≤41∧base≤n + 100000∧fr = dS n s base bits∧H = E∧gOk 2 n k s base bits 0 = true∧gF 2 n k s base bits 0 = gF 2 n 40 4 5 1 0) ?_ (k:=40) ⟨4,5,1,by omega,by omega,by omega,rfl,rfl,Fv h,rfl⟩
 rintro k fr H ⟨s,base,bits,hs,uh,hb,rfl,rfl,hok,hR⟩
 generalize gF 2 n 40 4 5 1 0 = R at *
 have h8:∃ code,((Try.f34.body).bind (aS [1,1,1,1,0,0,0,0,0])) = some code∧Run X (evT X) 34 m code (dS n s base bits) H ⟨.normal,dS n s base bits ++ [(12,.int .i64 (0:Nat))],H⟩:=by
  refine ⟨_,rfl,?_⟩
  simp only [dS]
  (refine ⟨0,?_⟩;simp (maxSteps:=2000000) -implicitDefEqProofs [-getElem?_pos,go_sem,eqV,aj])
 obtain ⟨OE,hcB,⟨ex,fr,H2⟩,hq,hrB⟩:=VL (m:=m) (E:=H) (by omega) hs uh hb hok hR
 rcases hq with ⟨h3,h4,s',base',f',k1,k2,k3,k4,k5,k6,k7⟩ | ⟨h3,h4,h5⟩
 ·simp only at h3 h4 k5
  subst h3 h4
  have g0:aI fr 0 = .int .i64 (n:Nat):=by simpa [bZ,dS,aI] using congrArg (fun f=>aI f 0) k5
  have g2:aI fr 2 = .int .i64 (s':Nat):=by simpa [bZ,dS,aI] using congrArg (fun f=>aI f 2) k5
  have g3:aI fr 3 = .int .i64 (base':Nat):=by simpa [bZ,dS,aI] using congrArg (fun f=>aI f 3) k5
  have g4:aI fr 4 = .int .i64 (bits:Nat):=by simpa [bZ,dS,aI] using congrArg (fun f=>aI f 4) k5
  refine au.of (o:=⟨.normal,dS n s' base' (bits + 1),H2⟩) ?_ (.inl ⟨rfl,f',k1,s',base',bits + 1,k2,k3,k4,rfl,rfl,k6,k7⟩)
  apply Run.seq (fr':=fr) (H':=H2)
  ·refine Run.block ?_ (by simp)
   exact Run.seq (piece h8 _ rfl) ((Option.some.inj hcB) ▸ hrB)
  ·have w1:IntKind.i64.wrap ((bits:Int) + 1) = ((bits + 1:Nat):Int):=by rw [wrap_i64 (by omega) (by omega)];omega
   generalize bits + 1 = b1 at *
   simp only [dS]
   (refine ⟨0,?_⟩;simp (maxSteps:=2000000) -implicitDefEqProofs [-getElem?_pos,go_sem,eqV,aj,g0,g2,g3,g4,w1,aC])
 ·simp only at h3 h4 h5
  subst h3 h4 h5
  refine au.of (o:=⟨.ret,lnR R,H2⟩) ?_ (.inr ⟨by simp,rfl,rfl,rfl⟩)
  refine Run.bH ?_ (by simp)
  refine Run.block ?_ (by simp)
  exact Run.seq (piece h8 _ rfl) ((Option.some.inj hcB) ▸ hrB)
theorem Hg {n:Nat} {H:AM.Heap} (h0:1≤n) (h:n≤32768):evT X 34 [.int .i64 (n:Nat)] H = some (.tup [.int .i64 ((bU n).1:Nat),.int .i64 ((bU n).2.1:Nat),.int .i64 ((bU n).2.2:Nat)],H):=by
 obtain ⟨code,hc,⟨out,⟨h1,h2,h3⟩,hr⟩⟩:=DN (m:=0) (E:=[]) h0 h
 have hx:=iM (C:=X) (f:=34) (i:=0) (a:=.int .i64 (n:Nat)) (H:=H) rfl rfl (dQ 1)
 refine eH (Ev1.pR (l:=[.int .i64 ((bU n).1:Nat),.int .i64 ((bU n).2.1:Nat),.int .i64 ((bU n).2.2:Nat)]) (bJ X) Try.func34 hc hx rfl (by simp [dJ]) rfl rfl rfl ?_)
 rw [VN]
 refine ⟨out,⟨h1,?_⟩,hr⟩
 show bf X out.fr out.H [.tmp 2,.tmp 3,.tmp 4] = _
 rw [h2]
 rfl
end Go.Proofs.Yteblpjhkgdpchaa
namespace Go.Proofs.Yteblpjhkgdpchaa
open Go.AM
def jJ:List Int→List Int→List Int × Int
 | n,[]=>(n,0)
 | n,x :: r=>if 0≤x∧x≤15 then jJ (n.set x.toNat (IntKind.i64.wrap (n.getD x.toNat 0 + 1))) r else (n,2)
def z16:List Int:=[0,0,0,0,0,0,0,0,0,0,0,0,0,0,0,0]
def fC (l:List Int):List Int × Int:=if 320 < (l.length:Int) then (z16,3) else jJ z16 l
def bx (n:List Int):Option AM.Obj:=some { p:=.pi .i64 n,g:=0,cap:=some 16,z:=1,row:=false,ids:=false,tg:=0 }
theorem wS:∀ (l n:List Int),(jJ n l).1.length = n.length
 | [],n=>rfl
 | x :: r,n=>by
  simp only [jJ]
  split
  ·rw [wS r];simp
  ·rfl
def oC (c:Nat) (l n todo:List Int):AM.Out :=
 if (jJ n todo).2 = 0 then ⟨.exit 0,[(2,.ptr 0 0 0 0),(4,.ptr 1 0 0 0),(11,.ro c (.pi .i64 l) 1),(12,.int .i64 l.length),(13,.int .i64 l.length),(14,.bool false)],[bx z16,bx (jJ n todo).1]⟩
 else ⟨.ret,[(2,.ptr 0 0 0 0),(3,.int .i64 (jJ n todo).2)],[bx (jJ n todo).1,bx (jJ n todo).1]⟩
theorem Hl (T:Cf) (c:Nat) (l:List Int) (h63:l.length < 9223372036854775808):∃ code,Try.f51.body = some code ∧
  Run X T 51 0 code [(0,.ro c (.pi .i64 l) 1)] [] ⟨.ret,[(2,.ptr 0 0 0 0),(3,.int .i64 (fC l).2)],[bx (fC l).1,bx (fC l).1]⟩:=by
 refine ⟨_,rfl,?_⟩
 by_cases hl:320 < (l.length:Int)
 ·simp only [fC,hl,if_true]
  apply Run.seq
  ·(refine ⟨0,?_⟩;conv=>lhs;simp (maxSteps:=2000000) -implicitDefEqProofs [-getElem?_pos,go_sem,eqV,aj])
  apply Run.seq
  ·(refine ⟨0,?_⟩;conv=>lhs;simp (maxSteps:=2000000) -implicitDefEqProofs [-getElem?_pos,go_sem,eqV,aj])
  apply Run.bH
  ·apply Run.seq
   ·(refine ⟨0,?_⟩;conv=>lhs;simp (maxSteps:=2000000) -implicitDefEqProofs [-getElem?_pos,go_sem,eqV,aj,hl])
   ·refine Run.cond (d:=true) rfl ?_
    apply Run.seq
    ·(refine ⟨0,?_⟩;conv=>lhs;simp (maxSteps:=2000000) -implicitDefEqProofs [-getElem?_pos,go_sem,eqV,aj])
    ·exact ⟨0,rfl⟩
  ·simp
 ·simp only [fC,hl,if_false]
  apply Run.seq
  ·(refine ⟨0,?_⟩;conv=>lhs;simp (maxSteps:=2000000) -implicitDefEqProofs [-getElem?_pos,go_sem,eqV,aj])
  apply Run.seq
  ·(refine ⟨0,?_⟩;conv=>lhs;simp (maxSteps:=2000000) -implicitDefEqProofs [-getElem?_pos,go_sem,eqV,aj])
  apply Run.seq
  ·apply Run.seq
   ·(refine ⟨0,?_⟩;conv=>lhs;simp (maxSteps:=2000000) -implicitDefEqProofs [-getElem?_pos,go_sem,eqV,aj,hl])
   ·exact Run.cond (d:=false) rfl ⟨0,rfl⟩
  -- the loop
  apply Run.seq' (o:=jK 0 (oC c l z16 l))
  ·apply Run.seq
   ·(refine ⟨0,?_⟩;conv=>lhs;simp (maxSteps:=2000000) -implicitDefEqProofs [-getElem?_pos,go_sem,eqV,aj])
   ·apply Run.block'
    refine Run.lq (σ:=List Int × List Int × List Int) (fun s=>s.1.length = 16∧s.2.1 ++ s.2.2 = l) (fun s=>[(2,.ptr 0 0 0 0),(4,.ptr 1 0 0 0),(11,.ro c (.pi .i64 l) 1),(12,.int .i64 l.length),(13,.int .i64 (s.2.1.length:Nat))])
     (fun s=>[bx z16,bx s.1]) (fun s=>oC c l s.1 s.2.2) (fun s=>s.2.2.length) ?_ (z16,[],l) ⟨rfl,rfl⟩
    rintro ⟨n,done,todo⟩ ⟨hn,hd⟩
    simp only at hn hd ⊢
    cases todo with
    | nil =>
     right
     have hlen:done.length = l.length:=by rw [← hd];simp
     refine ⟨?_,by simp [oC,jJ]⟩
     simp only [oC,jJ,if_true]
     apply Run.seq
     ·(refine ⟨0,?_⟩;conv=>lhs;simp (maxSteps:=2000000) -implicitDefEqProofs [-getElem?_pos,go_sem,eqV,aj,hlen])
     ·apply Run.bH
      ·exact Run.cond (d:=false) rfl ⟨0,rfl⟩
      ·simp
    | cons x todo =>
     have hlt:done.length < l.length:=by rw [← hd];simp
     have hget:l[done.length]? = some x:=by rw [← hd];simp
     by_cases hx:0≤x∧x≤15
     ·left
      obtain ⟨v,hv⟩:∃ v,n[x.toNat]? = some v:=⟨n[x.toNat]'(by omega),List.getElem?_eq_getElem (by omega)⟩
      refine ⟨(n.set x.toNat (IntKind.i64.wrap (v + 1)),done ++ [x],todo),⟨by simpa using hn,by simpa using hd⟩,?_,?_,by simp⟩
      ·have jB:(done.length:Int) < (l.length:Int):=by omega
       have hx1:¬ x < 0:=by omega
       have hx2:¬ 15 < x:=by omega
       have hx3:x < 16:=by omega
       have e:IntKind.i64.wrap ((done.length:Int) + 1) = (done.length:Int) + 1:=wrap_i64 (by omega) (by omega)
       apply Run.seq
       ·(refine ⟨0,?_⟩;conv=>lhs;simp (maxSteps:=2000000) -implicitDefEqProofs [-getElem?_pos,go_sem,eqV,aj,jB])
       apply Run.seq
       ·exact Run.cond (d:=true) rfl ⟨0,rfl⟩
       apply Run.seq
       ·apply Run.block
        ·apply Run.seq
         ·(refine ⟨0,?_⟩;conv=>lhs;simp (maxSteps:=2000000) -implicitDefEqProofs [-getElem?_pos,go_sem,eqV,aj,hget,hlt])
         apply Run.seq
         ·apply Run.seq
          ·(refine ⟨0,?_⟩;conv=>lhs;simp (maxSteps:=2000000) -implicitDefEqProofs [-getElem?_pos,go_sem,eqV,aj,hx1,hx2])
          ·exact Run.cond (d:=false) rfl ⟨0,rfl⟩
         ·(refine ⟨0,?_⟩;conv=>lhs;simp (maxSteps:=2000000) -implicitDefEqProofs [-getElem?_pos,go_sem,eqV,aj,hx.1,hx3,hv,bx,hn])
        ·simp
       ·(refine ⟨0,?_⟩;simp (maxSteps:=2000000) -implicitDefEqProofs [-getElem?_pos,go_sem,eqV,aj,e,bx,List.getD_eq_getElem?_getD,hv])
      ·simp [oC,jJ,hx,List.getD_eq_getElem?_getD,hv]
     ·right
      refine ⟨?_,by simp [oC,jJ,hx]⟩
      have jB:(done.length:Int) < (l.length:Int):=by omega
      simp only [oC,jJ,hx,if_false]
      apply Run.seq
      ·(refine ⟨0,?_⟩;conv=>lhs;simp (maxSteps:=2000000) -implicitDefEqProofs [-getElem?_pos,go_sem,eqV,aj,jB])
      apply Run.seq
      ·exact Run.cond (d:=true) rfl ⟨0,rfl⟩
      apply Run.bH
      ·apply Run.block
       ·apply Run.seq
        ·(refine ⟨0,?_⟩;conv=>lhs;simp (maxSteps:=2000000) -implicitDefEqProofs [-getElem?_pos,go_sem,eqV,aj,hget,hlt])
        apply Run.bH
        ·refine Run.seq (fr':=[(2,.ptr 0 0 0 0),(4,.ptr 1 0 0 0),(6,.int .i64 x),(11,.ro c (.pi .i64 l) 1),(12,.int .i64 l.length),(13,.int .i64 done.length),(22,.bool true)]) (H':=[bx z16,bx n]) ⟨0,?_⟩ ?_
         ·by_cases hx1:x < 0
          ·simp (maxSteps:=2000000) -implicitDefEqProofs [-getElem?_pos,go_sem,eqV,aj,hx1]
          ·have hx2:15 < x:=by omega
           simp (maxSteps:=2000000) -implicitDefEqProofs [-getElem?_pos,go_sem,eqV,aj,hx1,hx2]
         ·refine Run.cond (d:=true) rfl ?_
          apply Run.seq
          ·(refine ⟨0,?_⟩;conv=>lhs;simp (maxSteps:=2000000) -implicitDefEqProofs [-getElem?_pos,go_sem,eqV,aj,bx,z16,hn])
          ·exact ⟨0,rfl⟩
        ·simp
       ·simp
      ·simp
  ·intro fr' H' h
   unfold oC at h
   split at h
   ·rename_i he
    simp only [jK,if_true,Out.mk.injEq,true_and] at h
    obtain ⟨rfl,rfl⟩:=h
    rw [he]
    have hn:=wS l z16
    generalize (jJ z16 l).1 = n at hn ⊢
    have hn':n.length = 16:=hn
    apply Run.seq
    ·(refine ⟨0,?_⟩;conv=>lhs;simp (maxSteps:=2000000) -implicitDefEqProofs [-getElem?_pos,go_sem,eqV,aj,bx,z16,hn'])
    ·exact ⟨0,rfl⟩
   ·simp [jK] at h
  ·intro h
   unfold oC at h ⊢
   split at h
   ·simp [jK] at h
   ·rename_i he
    rw [if_neg he]
    rfl
end Go.Proofs.Yteblpjhkgdpchaa
