/- EG to ID: texts of this claim, one behind the other; what each shows stands at its head. -/
import Derived.Test.YtcllinmgllmpmaaAm3
import Derived.Test.YtcllinmgllmpmaaMg4
set_option linter.unusedSimpArgs false
set_option linter.unusedVariables false
set_option maxRecDepth 100000
set_option maxHeartbeats 8000000
namespace Go.Proofs.Ytcllinmgllmpmaa
open Go.AM
theorem Yt {s:Ws} {cs ls:List Int} {y:Nat} (h:jM s) (hk:1≤s.k):(jL s cs ls y).o ≠ []:=by
 obtain ⟨h1,h2⟩:=kD (cs:=cs) (ls:=ls) (y:=y) h
 intro e
 unfold jM at h1
 rw [e] at h1
 simp at h1
 omega
theorem Yu {l:List Px} (hm:∀ x ∈ l,ny x = true):(GL l).o ≠ []:=by
 unfold GL
 have h0:jM ⟨0,[]⟩:=rfl
 obtain ⟨h1,h2⟩:=dR (x:=1) h0 1
 obtain ⟨h3,h4⟩:=dR (x:=1) h1 2
 obtain ⟨h5,h6⟩:=F7 l _ h3 hm
 have hmono:∀ (l:List Px) (s:Ws),jM s→(∀ x ∈ l,ny x = true)→s.k≤(l.foldl pxW s).k:=by
  intro l
  induction l with
  | nil=>intro s _ _;exact Nat.le_refl _
  | cons x l ih =>
   intro s hs hm
   obtain ⟨h1,_⟩:=PV hs (hm x (List.mem_cons_self ..))
   refine Nat.le_trans ?_ (ih (pxW s x) h1 fun y hy=>hm y (List.mem_cons_of_mem _ hy))
   unfold pxW
   split
   ·have:=(kD (cs:=lcL) (ls:=flL) (y:=x.byte.toNat) hs).2
    omega
   ·have a1:=kD (cs:=lcL) (ls:=flL) (y:=(lenOf x.len.toNat).1) hs
    have a2:=dR (x:=x.len - ((lenOf x.len.toNat).2.1:Nat)) a1.1 (lenOf x.len.toNat).2.2
    have a3:=kD (cs:=dcL) (ls:=flD) (y:=(eH x.dist.toNat).1) a2.1
    have a4:=dR (x:=x.dist - ((eH x.dist.toNat).2.1:Nat)) a3.1 (eH x.dist.toNat).2.2
    have b1:=a1.2;have b2:=a2.2;have b3:=a3.2;have b4:=a4.2
    omega
 have:=hmono l _ h3 hm
 exact Yt h5 (by omega)
theorem Rk {H:AM.Heap} {o:Nat} {l:List Int} (h:H[o]? = some (some (flO l))):dP H (.sl o 0 l.length 0) = some (.pi .i64 l):=by
 simp [dP,live,h,flO,jd]
theorem akJ:mO X 66 [] = some (.agg (.pc [.ro 0 .pn 0,.int .i64 0])):=by kernel_rfl
def fiX (l:List Px) (fr:AM.Frame) (E:AM.Heap):Prop:=∃ a g ob,au fr 2 = .sl a 0 (oq l).1.length g∧au fr 3 = .int .i64 (oq l).2∧E[a]? = some (some ob)∧Rw (.pb (oq l).1) g ob
section
variable {c:Nat} {l:List Px}
theorem PW {m:Nat} (hl:l.length≤2000):∃ code,Try.f26.body = some code∧aj (qo (fiX l)) X (evT X) 26 m code [(0,.ro c (.pr 3 (l.map pxR)) 1)] []:=by
 refine ⟨_,rfl,?_⟩
 obtain ⟨obE,hwE,hEx⟩:=TW (H:=[some (⟨.pb [],0,none,0,true,false,0⟩:AM.Obj)]) (a:=.ro c (.pr 3 (l.map pxR)) 1) (l:=l) rfl hl
 have hmay:=J5 (l:=l) (o:=[])
 unfold fiX oq
 generalize hex:jX l [] = r at *
 obtain ⟨o,e⟩:=r
 simp only at hEx hmay ⊢
 apply aj.seq (fr':=[(0,.ro c (.pr 3 (l.map pxR)) 1)]) (H':=[some (⟨.pb [],0,none,0,true,false,0⟩:AM.Obj)])
 ·generalize l.map pxR = R at *
  (refine ⟨0,?_⟩;simp (maxSteps:=2000000) -implicitDefEqProofs [-getElem?_pos,go_sem,eqV,ah,ak,rowOf,TK])
 apply aj.assoc
 apply aj.seq (fr':=[(0,.ro c (.pr 3 (l.map pxR)) 1),(5,.int .i64 e)]) (H':=[some (⟨.pb [],0,none,0,true,false,0⟩:AM.Obj),some obE])
 ·simp only [List.length_singleton,List.singleton_append] at hEx
  generalize l.map pxR = R at *
  generalize o.length = K at *
  (refine ⟨0,?_⟩;simp (maxSteps:=2000000) -implicitDefEqProofs [-getElem?_pos,go_sem,eqV,ah,hEx,ak])
 apply aj.assoc
 by_cases he:¬ e = 0
 ·have heb:(e != 0) = true:=by simpa using he
  rw [if_pos he]
  refine aj.of (o:=⟨.ret,[(2,.sl 2 0 0 0),(3,.int .i64 e)],[some (⟨.pb [],0,none,0,true,false,0⟩:AM.Obj),some obE,some (⟨.pb [],0,none,0,true,false,0⟩:AM.Obj)]⟩) ?_ ⟨rfl,2,0,_,rfl,rfl,rfl,⟨rfl,rfl,rfl,rfl,rfl⟩⟩
  apply Run.seq (fr':=[(0,.ro c (.pr 3 (l.map pxR)) 1),(5,.int .i64 e),(24,.bool true)]) (H':=[some (⟨.pb [],0,none,0,true,false,0⟩:AM.Obj),some obE])
  ·generalize l.map pxR = R at *
   (refine ⟨0,?_⟩;simp (maxSteps:=2000000) -implicitDefEqProofs [-getElem?_pos,go_sem,eqV,ah,he,heb])
  refine Run.bH ?_ (by simp)
  refine Run.cond (d:=true) (by simp [aF,au]) ?_
  apply Run.seq (fr':=[(2,.sl 2 0 0 0),(3,.int .i64 e)]) (H':=[some (⟨.pb [],0,none,0,true,false,0⟩:AM.Obj),some obE,some (⟨.pb [],0,none,0,true,false,0⟩:AM.Obj)])
  ·generalize l.map pxR = R at *
   (refine ⟨0,?_⟩;simp (maxSteps:=2000000) -implicitDefEqProofs [-getElem?_pos,go_sem,eqV,ah,ak,rowOf,TK])
  ·exact ⟨0,rfl⟩
 have he:e = 0:=Classical.not_not.1 he
 subst he
 rw [if_neg (by simp)]
 simp only
 have hm:=hmay rfl
 apply aj.seq (fr':=[(0,.ro c (.pr 3 (l.map pxR)) 1),(5,.int .i64 0),(24,.bool false)]) (H':=[some (⟨.pb [],0,none,0,true,false,0⟩:AM.Obj),some obE])
 ·generalize l.map pxR = R at *
  (refine ⟨0,?_⟩;simp (maxSteps:=2000000) -implicitDefEqProofs [-getElem?_pos,go_sem,eqV,ah])
 apply aj.seq (fr':=[(0,.ro c (.pr 3 (l.map pxR)) 1),(5,.int .i64 0),(24,.bool false)]) (H':=[some (⟨.pb [],0,none,0,true,false,0⟩:AM.Obj),some obE])
 ·exact Run.cond (d:=false) (by simp [aF,au]) ⟨0,rfl⟩
 have hF:=agS [some (⟨.pb [],0,none,0,true,false,0⟩:AM.Obj),some obE]
 have hC1:=Q9 (H:=[some (⟨.pb [],0,none,0,true,false,0⟩:AM.Obj),some obE,some (flO flL),some (flO flD)]) (a:=.sl 2 0 288 0) (l:=flL) (by have:=Rk (H:=[some (⟨.pb [],0,none,0,true,false,0⟩:AM.Obj),some obE,some (flO flL),some (flO flD)]) (o:=2) (l:=flL) rfl;rwa [rZ] at this) aat
 have hC2:=Q9 (H:=[some (⟨.pb [],0,none,0,true,false,0⟩:AM.Obj),some obE,some (flO flL),some (flO flD),oh 288 lcL]) (a:=.sl 3 0 32 0) (l:=flD) (by have:=Rk (H:=[some (⟨.pb [],0,none,0,true,false,0⟩:AM.Obj),some obE,some (flO flL),some (flO flD),oh 288 lcL]) (o:=3) (l:=flD) rfl;rwa [D8] at this) aau
 rw [rZ] at hC1
 rw [D8] at hC2
 simp only [List.length_cons,List.length_nil,List.cons_append,List.nil_append] at hF hC1 hC2
 change evT X _ _ _ = some (_,[_,_,_,_,oh 288 lcL]) at hC1
 change evT X _ _ _ = some (_,[_,_,_,_,_,oh 32 dcL]) at hC2
 have hV:FxV [some (⟨.pb [],0,none,0,true,false,0⟩:AM.Obj),some obE,some (flO flL),some (flO flD),oh 288 lcL,oh 32 dcL,some (jv ⟨0,[]⟩ (.ro 0 .pn 0) 0)] 2 3 4 5 6 none ⟨0,[]⟩:=⟨rfl,rfl,rfl,rfl,⟨⟨_,0,.inl rfl,rfl,rfl,0,.inl rfl,rfl⟩,fun a h=>by cases h⟩,by omega,fun a h=>(by cases h),rfl⟩
 generalize oh 288 lcL = r8 at *
 generalize oh 32 dcL = r10 at *
 generalize some (flO flL) = r6 at *
 generalize some (flO flD) = r7 at *
 generalize some (⟨.pb [],0,none,0,true,false,0⟩:AM.Obj) = r0 at *
 apply aj.seq (fr':=[(0,.ro c (.pr 3 (l.map pxR)) 1),(6,.sl 2 0 288 0),(7,.sl 3 0 32 0)]) (H':=[r0,some obE,r6,r7])
 ·generalize l.map pxR = R at *
  (refine ⟨0,?_⟩;simp (maxSteps:=2000000) -implicitDefEqProofs [-getElem?_pos,go_sem,eqV,ah,hF,ak])
 apply aj.seq (fr':=[(0,.ro c (.pr 3 (l.map pxR)) 1),(6,.sl 2 0 288 0),(7,.sl 3 0 32 0),(8,.sl 4 0 288 0)]) (H':=[r0,some obE,r6,r7,r8])
 ·generalize l.map pxR = R at *
  (refine ⟨0,?_⟩;simp (maxSteps:=2000000) -implicitDefEqProofs [-getElem?_pos,go_sem,eqV,ah,hC1,ak])
 apply aj.seq (fr':=[(0,.ro c (.pr 3 (l.map pxR)) 1),(6,.sl 2 0 288 0),(7,.sl 3 0 32 0),(8,.sl 4 0 288 0),(10,.sl 5 0 32 0)]) (H':=[r0,some obE,r6,r7,r8,r10])
 ·generalize l.map pxR = R at *
  (refine ⟨0,?_⟩;simp (maxSteps:=2000000) -implicitDefEqProofs [-getElem?_pos,go_sem,eqV,ah,hC2,ak])
 apply aj.seq (fr':=[(0,.ro c (.pr 3 (l.map pxR)) 1),(6,.sl 2 0 288 0),(7,.sl 3 0 32 0),(8,.sl 4 0 288 0),(10,.sl 5 0 32 0),(12,.ptr 6 0 0 0)]) (H':=[r0,some obE,r6,r7,r8,r10,some (jv ⟨0,[]⟩ (.ro 0 .pn 0) 0)])
 ·simp only [jv]
  generalize l.map pxR = R at *
  (refine ⟨0,?_⟩;simp (maxSteps:=2000000) -implicitDefEqProofs [-getElem?_pos,go_sem,eqV,ah,akJ,ak])
 clear hC1 hC2 hF hEx
 generalize [r0,some obE,r6,r7,r8,r10,some (jv ⟨0,[]⟩ (.ro 0 .pn 0) 0)] = E0 at *
 obtain ⟨E1,oa1,g1,g2,g3⟩:=oz (x:=1) (I:=1) (n:=1) rfl hV.wr hV.ok (by simp) (by omega)
 have hV1:=hV.step g2 g3 (dR hV.ok 1).1
 apply aj.seq (fr':=[(0,.ro c (.pr 3 (l.map pxR)) 1),(6,.sl 2 0 288 0),(7,.sl 3 0 32 0),(8,.sl 4 0 288 0),(10,.sl 5 0 32 0),(12,.ptr 6 0 0 0)]) (H':=E1)
 ·generalize l.map pxR = R at *
  (refine ⟨0,?_⟩;simp (maxSteps:=2000000) -implicitDefEqProofs [-getElem?_pos,go_sem,eqV,ah,g1])
 have k1:=(dR (x:=1) hV.ok 1).2
 obtain ⟨E2,oa2,g4,g5,g6⟩:=oz (x:=1) (I:=2) (n:=2) rfl hV1.wr hV1.ok (by rw [k1];simp) (by omega)
 have hV2:=hV1.step g5 g6 (dR hV1.ok 2).1
 have k2:=(dR (x:=1) hV1.ok 2).2
 apply aj.seq (fr':=[(0,.ro c (.pr 3 (l.map pxR)) 1),(6,.sl 2 0 288 0),(7,.sl 3 0 32 0),(8,.sl 4 0 288 0),(10,.sl 5 0 32 0),(12,.ptr 6 0 0 0)]) (H':=E2)
 ·generalize l.map pxR = R at *
  (refine ⟨0,?_⟩;simp (maxSteps:=2000000) -implicitDefEqProofs [-getElem?_pos,go_sem,eqV,ah,g4])
 apply aj.assoc
 apply aj.seq (fr':=ou 2 3 4 5 6 c l 0) (H':=E2)
 ·have hll:(l.map pxR).length = l.length:=by simp
  simp only [ou]
  generalize l.map pxR = R at *
  generalize l.length = N at *
  (refine ⟨0,?_⟩;simp (maxSteps:=2000000) -implicitDefEqProofs [-getElem?_pos,go_sem,eqV,ah,hll])
 have hk3:(dn (dn ⟨0,[]⟩ 1 1) 1 2).k≤100:=by rw [k2,k1];simp
 apply aj.andThen (piece (Yv (m:=m) (c:=c) hV2 hk3 hl hm) _ rfl)
 rintro fr E3 ⟨oa3,rfl,hV3⟩
 have hk4:=(F7 l _ hV2.ok hm).2
 obtain ⟨E4,oa4,hV4,akK⟩:=aaM (m:=m) (c:=c) (i:=l.length) (l:=l) (tl:=[(49,.bool false)]) hV3 (by omega)
 apply aj.seq (piece akK _ rfl)
 have hne:=Yu hm
 unfold GL at hne ⊢
 obtain ⟨a,g,ob,q1,q2,akL⟩:=aaN (m:=m) hV4 hne
 generalize (jL (l.foldl pxW (dn (dn ⟨0,[]⟩ 1 1) 1 2)) lcL flL 256).o = B at *
 apply aj.seq (piece akL _ rfl)
 exact aj.of (o:=⟨.ret,[(2,.sl a 0 B.length g),(3,.int .i64 0)],E4⟩) ⟨0,rfl⟩ ⟨rfl,a,g,ob,rfl,rfl,q1,q2⟩
theorem Uh {H:AM.Heap} {a:AV} (ha:dP H a = some (.pr 3 (l.map pxR))) (hl:l.length≤2000):∃ ob,Rw (.pb (oq l).1) 0 ob∧evT X 26 [a] H = some (.tup [.sl H.length 0 (oq l).1.length 0,.int .i64 (oq l).2],H ++ [some ob]):=by
 obtain ⟨c,x,hx⟩:=fV (C:=X) (f:=26) (i:=0) rfl ha (fF 1)
 obtain ⟨code,hc,⟨out,⟨ho,a2,g,ob,h2,h3,h4,hw⟩,hrun⟩⟩:=PW (m:=0) (c:=c) (l:=l) hl
 obtain ⟨ob',q1,q2⟩:=Ev1.Ve (C:=X) (H:=H) (bU X) (n:=(oq l).1.length) (l:=(oq l).1) (rest:=[.int .i64 (oq l).2]) Try.func26 hc hx rfl (by simp [dG]) rfl rfl rfl (by
  rw [acV]
  refine ⟨out,⟨ho,a2,g,ob,?_,h4,hw⟩,hrun⟩
  show aP X out.fr out.H [.tmp 2,.tmp 3] = _
  simp [aP,h2,h3])
 exact ⟨ob',q1,dX (by simpa [aO,eU] using q2)⟩
end
end Go.Proofs.Ytcllinmgllmpmaa
namespace Go.Proofs.Ytcllinmgllmpmaa
open Go.AM
def zu (b:List UInt8):Ws:=dn (dn ⟨8,(dn ⟨0,[]⟩ 1 3).o⟩ (b.length:Nat) 16) (-(b.length:Int) - 1) 16
def lC (b:List UInt8):List UInt8:=(zu b).o ++ b
theorem f13:(dn ⟨0,[]⟩ 1 3) = ⟨3,[1]⟩:=by kernel_rfl
theorem akM:mO X 66 [] = some (.agg (.pc [.ro 0 .pn 0,.int .i64 0])):=by kernel_rfl
theorem adn:bT X 5 = .pb []:=by kernel_rfl
theorem akN {L:Nat} (h:L≤65535):IntKind.i64.wrap ((AM.bits .i64 (if IntKind.i64.signed = true then -1 else 9223372036854775807) ^^^ AM.bits .i64 (L:Int)).toNat:Nat) = -(L:Int) - 1:=by
 have e1:AM.bits .i64 (if IntKind.i64.signed = true then -1 else 9223372036854775807) = BitVec.allOnes 64:=by kernel_rfl
 have e2:(BitVec.ofInt 64 (L:Int)).toNat = L:=by
  rw [BitVec.toNat_ofInt]
  show ((L:Int) % 18446744073709551616).toNat = L
  omega
 have e3:(AM.bits .i64 (if IntKind.i64.signed = true then -1 else 9223372036854775807) ^^^ AM.bits .i64 (L:Int)).toNat = 18446744073709551615 - L:=by
  rw [e1]
  show (BitVec.allOnes 64 ^^^ BitVec.ofInt 64 (L:Int)).toNat = _
  rw [BitVec.allOnes_xor,BitVec.toNat_not,e2]
 rw [e3]
 have e4:((18446744073709551615 - L:Nat):Int) = 18446744073709551615 - (L:Int):=by omega
 rw [e4]
 unfold IntKind.wrap
 simp [IntKind.bits,IntKind.signed]
 omega
section
variable {c:Nat} {b:List UInt8} {E:AM.Heap} {oa:Option Nat} {s:Ws}
def vw (c:Nat) (b:List UInt8):AM.Frame:=[(0,.ro c (.pb b) 1),(3,.ptr 1 0 0 0),(4,.int .i64 (b.length:Nat)),(5,.int .i64 1)]
theorem ado {m:Nat} (h:WrV 0 E 1 oa s) (hne:s.o ≠ []) (hl:s.o.length≤1000000):∃ E',WrV 0 E' 1 oa ⟨s.o.length * 8,s.o⟩∧∃ code,((Try.f28.body).bind (aI [1,1,0,0,0,1,1,1,1,0])) = some code∧Run X (evT X) 28 m code (vw c b) E ⟨.normal,vw c b,E'⟩:=by
 obtain ⟨⟨vo,τ,a1,h0,ho⟩,hn⟩:=id h
 cases oa with
 | none=>exact absurd ho.1 hne
 | some a =>
  refine ⟨AM.upd E 1 (some (jv ⟨s.o.length * 8,s.o⟩ vo τ)),WrV.set hn a1 (eY h0) ho,_,rfl,?_⟩
  obtain ⟨g,τ2,ob,hτ2,rfl,h3,h4⟩:=ho
  have hg:=h4.g
  have w1:IntKind.i64.wrap ((s.o.length:Int) * 8) = ((s.o.length * 8:Nat):Int):=by rw [wrap_i64 (by omega) (by omega)];omega
  simp only [jv,vw] at h0 ⊢
  generalize s.o.length * 8 = k8 at *
  generalize s.o.length = N at *
  generalize b.length = L at *
  (refine ⟨0,?_⟩;simp (maxSteps:=2000000) -implicitDefEqProofs [-getElem?_pos,go_sem,eqV,ah,h0,h3,hg,w1])
theorem aaO {m:Nat} (h:WrV 0 E 1 oa s) (hne:s.o ≠ []) (hl:s.o.length≤1000000):∃ E',WrV 0 E' 1 oa ⟨s.o.length * 8,s.o⟩∧∃ code,((Try.f28.body).bind (aI [1,1,0,0,0,1,1,1,1,1,1,1,1,0])) = some code∧Run X (evT X) 28 m code (vw c b) E ⟨.normal,vw c b,E'⟩:=by
 obtain ⟨⟨vo,τ,a1,h0,ho⟩,hn⟩:=id h
 cases oa with
 | none=>exact absurd ho.1 hne
 | some a =>
  refine ⟨AM.upd E 1 (some (jv ⟨s.o.length * 8,s.o⟩ vo τ)),WrV.set hn a1 (eY h0) ho,_,rfl,?_⟩
  obtain ⟨g,τ2,ob,hτ2,rfl,h3,h4⟩:=ho
  have hg:=h4.g
  have w1:IntKind.i64.wrap ((s.o.length:Int) * 8) = ((s.o.length * 8:Nat):Int):=by rw [wrap_i64 (by omega) (by omega)];omega
  simp only [jv,vw] at h0 ⊢
  generalize s.o.length * 8 = k8 at *
  generalize s.o.length = N at *
  generalize b.length = L at *
  (refine ⟨0,?_⟩;simp (maxSteps:=2000000) -implicitDefEqProofs [-getElem?_pos,go_sem,eqV,ah,h0,h3,hg,w1])
theorem aaP {m:Nat} (h:WrV 0 E 1 oa s) (hne:s.o ≠ []) (hl:s.o.length≤1000000) (hb:b.length≤65535):∃ E',WrV 0 E' 1 oa ⟨s.k,s.o ++ b⟩∧∃ code,((Try.f28.body).bind (aI [1,1,0,0,0,1,1,1,1,1,1,1,0])) = some code∧Run X (evT X) 28 m code (vw c b) E ⟨.normal,vw c b,E'⟩:=by
 obtain ⟨⟨vo,τ,a1,h0,ho⟩,hn⟩:=id h
 cases oa with
 | none=>exact absurd ho.1 hne
 | some a =>
  obtain ⟨g,τ2,ob,hτ2,rfl,h3,h4⟩:=ho
  obtain ⟨ob',w1,w2⟩:=JE (C:=X) (T:=22) (e:=5) (src:=.ro (if c = 0 then 0 else 2) (.pb b) 1) (m:=b) vI SQ zX bytes5 Jp h3 h4 (.inl (by simp [lV,pI,rD])) (by omega)
  have h0':(upd E a (some ob'))[1]? = some (some (jv s (.sl a 0 s.o.length g) τ)):=wB h0 (hn a rfl)
  refine ⟨AM.upd (upd E a (some ob')) 1 (some (jv ⟨s.k,s.o ++ b⟩ (.sl a 0 (s.o.length + b.length) (g + 1)) τ)),WrV.set hn a1 (eY h0') ⟨g + 1,τ2,ob',hτ2,by simp,setAt h3,w1⟩,_,rfl,?_⟩
  have ht:b.take b.length = b:=List.take_length
  have hz:jd (.pb b) 0 b.length = some (.pb b):=by simp [jd]
  simp only [jv,vw] at h0 h0' ⊢
  generalize upd E a (some ob') = E1 at *
  generalize s.o.length + b.length = N2 at *
  generalize s.o.length = N at *
  generalize hL:b.length = L at *
  (refine ⟨0,?_⟩;simp (maxSteps:=2000000) -implicitDefEqProofs [-getElem?_pos,go_sem,eqV,ah,h0,h0',w2,qK,bound,jd,hL,ht,hz])
theorem Ui (s:Ws) (x:Int):s.o.length≤(pW s x).o.length:=by
 unfold pW
 simp only [List.length_set]
 split <;> simp
theorem xg (s:Ws) (x:Int):∀ n,s.o.length≤(dn s x n).o.length
 | 0=>Nat.le_refl _
 | n + 1=>Nat.le_trans (xg s x n) (Ui _ _)
theorem J6 {m:Nat} (hb:b.length≤65535):∃ code,Try.f28.body = some code∧aj (qo fun fr E=>∃ a g ob,au fr 2 = .sl a 0 (lC b).length g∧E[a]? = some (some ob)∧Rw (.pb (lC b)) g ob) X (evT X) 28 m code [(0,.ro c (.pb b) 1)] []:=by
 refine ⟨_,rfl,?_⟩
 apply aj.seq (fr':=[(0,.ro c (.pb b) 1)]) (H':=[some (⟨.pb [],0,none,0,true,false,0⟩:AM.Obj)])
 ·(refine ⟨0,?_⟩;simp (maxSteps:=2000000) -implicitDefEqProofs [-getElem?_pos,go_sem,eqV,ah,ak,rowOf,adn])
 apply aj.seq (fr':=[(0,.ro c (.pb b) 1),(3,.ptr 1 0 0 0)]) (H':=[some (⟨.pb [],0,none,0,true,false,0⟩:AM.Obj),some (jv ⟨0,[]⟩ (.ro 0 .pn 0) 0)])
 ·simp only [jv]
  (refine ⟨0,?_⟩;simp (maxSteps:=2000000) -implicitDefEqProofs [-getElem?_pos,go_sem,eqV,ah,akM,ak])
 have hV:WrV 0 [some (⟨.pb [],0,none,0,true,false,0⟩:AM.Obj),some (jv ⟨0,[]⟩ (.ro 0 .pn 0) 0)] 1 none ⟨0,[]⟩:=⟨⟨_,0,.inl rfl,rfl,rfl,0,.inl rfl,rfl⟩,fun a h=>by cases h⟩
 generalize [some (⟨.pb [],0,none,0,true,false,0⟩:AM.Obj),some (jv ⟨0,[]⟩ (.ro 0 .pn 0) 0)] = E0 at *
 have hI:(b.length:Int)≤65535:=by omega
 refine aj.blk ?_ (fun o ho=>by rw [ho.1];simp)
 refine aj.kF (I:=fun k fr E=>k = 0∧fr = [(0,.ro c (.pb b) 1),(3,.ptr 1 0 0 0)]∧E = E0) ?_ (k:=0) ⟨rfl,rfl,rfl⟩
 rintro k fr E ⟨rfl,rfl,rfl⟩
 suffices hT:aj (qo fun fr E=>∃ a g ob,au fr 2 = .sl a 0 (lC b).length g∧E[a]? = some (some ob)∧Rw (.pb (lC b)) g ob) X (evT X) 28 m _ [(0,.ro c (.pb b) 1),(3,.ptr 1 0 0 0)] E from hT.mono fun o ho=>.inr ⟨by rw [ho.1];simp,ho⟩
 refine aj.blk ?_ (fun o ho=>by rw [ho.1];simp)
 apply aj.seq (fr':=[(0,.ro c (.pb b) 1),(3,.ptr 1 0 0 0),(4,.int .i64 (b.length:Nat))]) (H':=E)
 ·have hI2:¬ (65535:Int) < (b.length:Int):=by omega
  have hI3:¬ 65535 < b.length:=by omega
  generalize hL:b.length = L at *
  (refine ⟨0,?_⟩;simp (maxSteps:=2000000) -implicitDefEqProofs [-getElem?_pos,go_sem,eqV,ah,pR,ak,hI,hI2,hI3,hL])
 apply aj.seq (fr':=[(0,.ro c (.pb b) 1),(3,.ptr 1 0 0 0),(4,.int .i64 (b.length:Nat)),(5,.int .i64 0)]) (H':=E)
 ·generalize hL:b.length = L at *
  (refine ⟨0,?_⟩;simp (maxSteps:=2000000) -implicitDefEqProofs [-getElem?_pos,go_sem,eqV,ah,ak])
 apply aj.assoc
 apply aj.seq (fr':=[(0,.ro c (.pb b) 1),(3,.ptr 1 0 0 0),(4,.int .i64 (b.length:Nat)),(5,.int .i64 0),(14,.bool true)]) (H':=E)
 ·generalize hL:b.length = L at *
  (refine ⟨0,?_⟩;simp (maxSteps:=2000000) -implicitDefEqProofs [-getElem?_pos,go_sem,eqV,ah,hL])
 apply aj.seq (fr':=vw c b) (H':=E)
 ·refine Run.cond (d:=true) (by simp [aF,au]) ?_
  simp only [vw]
  generalize hL:b.length = L at *
  (refine ⟨0,?_⟩;simp (maxSteps:=2000000) -implicitDefEqProofs [-getElem?_pos,go_sem,eqV,ah,ak])
 obtain ⟨E1,oa1,g1,g2,g3⟩:=oz (x:=1) (I:=3) (n:=3) rfl hV rfl (by simp) (by omega)
 apply aj.seq (fr':=vw c b) (H':=E1)
 ·simp only [vw]
  generalize hL:b.length = L at *
  (refine ⟨0,?_⟩;simp (maxSteps:=2000000) -implicitDefEqProofs [-getElem?_pos,go_sem,eqV,ah,g1])
 have ho1:(dn ⟨0,[]⟩ 1 3).o = [1]:=by rw [f13]
 obtain ⟨E2,hV2,hr7⟩:=ado (m:=m) (c:=c) (b:=b) g2 (by rw [ho1];simp) (by rw [ho1];simp)
 apply aj.seq (piece hr7 _ rfl)
 have e8:(dn ⟨0,[]⟩ 1 3).o.length * 8 = 8:=by rw [ho1];rfl
 rw [e8] at hV2
 have hok2:jM ⟨8,(dn ⟨0,[]⟩ 1 3).o⟩:=by unfold jM;rw [ho1];rfl
 obtain ⟨E3,oa3,g4,g5,g6⟩:=oz (x:=(b.length:Nat)) (I:=16) (n:=16) rfl hV2 hok2 (by simp) (by omega)
 have k3:=dR (x:=(b.length:Nat)) hok2 16
 apply aj.seq (fr':=vw c b) (H':=E3)
 ·simp only [vw]
  generalize hL:b.length = L at *
  (refine ⟨0,?_⟩;simp (maxSteps:=2000000) -implicitDefEqProofs [-getElem?_pos,go_sem,eqV,ah,g4])
 obtain ⟨E4,oa4,g7,g8,g9⟩:=oz (x:=-(b.length:Int) - 1) (I:=16) (n:=16) rfl g5 k3.1 (by rw [k3.2];simp) (by omega)
 have k4:=dR (x:=-(b.length:Int) - 1) k3.1 16
 apply aj.seq (fr':=vw c b) (H':=E4)
 ·simp only [vw]
  have wx:IntKind.i64.wrap (-(b.length:Int) - 1) = -(b.length:Int) - 1:=by rw [wrap_i64 (by omega) (by omega)]
  have wx2:IntKind.i64.wrap (-1 - (b.length:Int)) = -(b.length:Int) - 1:=by rw [wrap_i64 (by omega) (by omega)];omega
  have wn:=akN hb
  simp only [go_sem] at wn
  generalize hL:b.length = L at *
  (refine ⟨0,?_⟩;simp (maxSteps:=2000000) -implicitDefEqProofs [-getElem?_pos,go_sem,eqV,ah,g7,wn])
 have adp:1≤(zu b).o.length:=by
  have m1:=xg ⟨8,(dn ⟨0,[]⟩ 1 3).o⟩ (b.length:Nat) 16
  have m2:=xg (dn ⟨8,(dn ⟨0,[]⟩ 1 3).o⟩ (b.length:Nat) 16) (-(b.length:Int) - 1) 16
  have m0:(dn ⟨0,[]⟩ 1 3).o.length = 1:=by rw [ho1];rfl
  unfold zu
  simp only at m1 m2
  omega
 have hk5:(zu b).o.length = 5:=by
  have:=k4.1
  unfold jM at this
  unfold zu
  rw [this,k4.2,k3.2]
  rfl
 have hne:(zu b).o ≠ []:=fun e=>by rw [e] at adp;simp at adp
 have g8':WrV 0 E4 1 oa4 (zu b):=g8
 obtain ⟨E5,hV5,akO⟩:=aaP (m:=m) (c:=c) (b:=b) g8' hne (by omega) hb
 apply aj.seq (piece akO _ rfl)
 obtain ⟨E6,hV6,akP⟩:=aaO (m:=m) (c:=c) (b:=b) hV5 (by simp [hne]) (by simp;omega)
 apply aj.seq (piece akP _ rfl)
 simp only at hV6
 have Uj:∃ v,∃ code,((Try.f28.body).bind (aI [1,1,0,0,0,1,1,1,1,1,1,1,1,1,0])) = some code∧Run X (evT X) 28 m code (vw c b) E6 ⟨.normal,[(0,v),(3,.ptr 1 0 0 0),(5,.int .i64 1)],E6⟩:=by
  refine ⟨.ro (if c = 0 then 0 else c) (.pb []) 1,_,rfl,?_⟩
  have hd:b.drop b.length = []:=List.drop_of_length_le (Nat.le_refl _)
  simp only [vw]
  generalize hL:b.length = L at *
  (refine ⟨0,?_⟩;simp (maxSteps:=2000000) -implicitDefEqProofs [-getElem?_pos,go_sem,eqV,ah,qK,bound,jd,hL,hd,ak])
 obtain ⟨v12,Uj⟩:=Uj
 apply aj.seq (piece Uj _ rfl)
 apply aj.seq (fr':=[(0,v12),(3,.ptr 1 0 0 0),(58,.bool true)]) (H':=E6)
 ·(refine ⟨0,?_⟩;simp (maxSteps:=2000000) -implicitDefEqProofs [-getElem?_pos,go_sem,eqV,ah])
 refine aj.yt (by simp [aF,au]) ?_
 obtain ⟨⟨vo,τ,a1,h0,ho⟩,hn⟩:=id hV6
 cases oa4 with
 | none=>exact absurd ho.1 (by simp [hne])
 | some a =>
  obtain ⟨g,τ2,ob,hτ2,rfl,h3,h4⟩:=ho
  have ht:τ2 = 0:=hτ2.elim id id
  have hst:(zu b).o ++ b = lC b:=rfl
  simp only [hst] at h0 h3 h4
  refine aj.of (o:=⟨.ret,[(2,.sl a 0 (lC b).length g)],E6⟩) ?_ ⟨rfl,a,g,ob,rfl,h3,⟨h4.p,h4.g,h4.row,h4.ids,by rw [h4.tg,ht]⟩⟩
  refine ⟨0,?_⟩
  simp only [jv] at h0
  generalize (lC b).length = N at *
  simp (maxSteps:=2000000) -implicitDefEqProofs [-getElem?_pos,go_sem,eqV,ah,h0,ak]
theorem PX {H:AM.Heap} {a:AV} (ha:dP H a = some (.pb b)) (hb:b.length≤65535):∃ ob,Rw (.pb (lC b)) 0 ob∧evT X 28 [a] H = some (.sl H.length 0 (lC b).length 0,H ++ [some ob]):=by
 obtain ⟨c,x,hx⟩:=fV (C:=X) (f:=28) (i:=0) rfl ha (fF 1)
 obtain ⟨code,hc,⟨out,⟨ho,a2,g,ob,h2,h4,hw⟩,hrun⟩⟩:=J6 (m:=0) (c:=c) hb
 obtain ⟨ob',q1,q2⟩:=Ev1.Ve (C:=X) (H:=H) (bU X) (n:=(lC b).length) (l:=lC b) (rest:=[]) Try.func28 hc hx rfl (by simp [dG]) rfl rfl rfl (by
  rw [acW]
  refine ⟨out,⟨ho,a2,g,ob,?_,h4,hw⟩,hrun⟩
  show aP X out.fr out.H [.tmp 2] = _
  simp [aP,h2])
 exact ⟨ob',q1,dX q2⟩
end
end Go.Proofs.Ytcllinmgllmpmaa
namespace Go.Proofs.Ytcllinmgllmpmaa
open Go.AM
def GN (x:Pc):Px:=⟨(x.len:Nat),(x.dist:Nat),x.byte⟩
theorem aaQ (L:List Pc):(L.map GN).map pxR = L.map pcR:=by
 rw [List.map_map]
 rfl
def vT (b:List UInt8):List Px:=(qw b b.length [] 0).map GN
def gq (b:List UInt8):List UInt8:=if (lC b).length < (oq (vT b)).1.length then lC b else (oq (vT b)).1
theorem F8 (b:List UInt8):∀ (f:Nat) (M:Pls) (p:Nat),(qw b f M p).length≤f
 | 0,_,_=>Nat.le_refl _
 | f + 1,M,p=>by
  unfold qw
  split
  ·have:=F8 b f (JJ b M p (max 1 (eG b M p).len)) (p + max 1 (eG b M p).len)
   simp
   omega
  ·simp
theorem aaR {H:AM.Heap} {o g es:Nat} {ob:AM.Obj} {l:List AV} (ho:H[o]? = some (some ob)) (hw:Rw (.pr es l) g ob):dP H (.sl o 0 l.length g) = some (.pr es l):=by
 simp [dP,live,ho,hw.g,hw.ids,hw.p,jd]
section
variable {c:Nat} {b:List UInt8}
theorem J7 {m:Nat} (hb:b.length≤1400):∃ code,Try.f20.body = some code∧aj (qo fun fr E=>∃ a g ob,au fr 2 = .sl a 0 (gq b).length g∧E[a]? = some (some ob)∧Rw (.pb (gq b)) g ob) X (evT X) 20 m code [(0,.ro c (.pb b) 1)] []:=by
 refine ⟨_,rfl,?_⟩
 apply aj.seq (fr':=[(0,.ro c (.pb b) 1)]) (H':=[some (⟨.pb [],0,none,0,true,false,0⟩:AM.Obj)])
 ·(refine ⟨0,?_⟩;simp (maxSteps:=2000000) -implicitDefEqProofs [-getElem?_pos,go_sem,eqV,ah,ak,rowOf,adn])
 obtain ⟨ob1,w1,e1⟩:=TJ (H:=[some (⟨.pb [],0,none,0,true,false,0⟩:AM.Obj)]) (a:=.ro c (.pb b) 1) (b:=b) rfl hb
 have hlen:=F8 b b.length [] 0
 obtain ⟨ob2,w2,e2⟩:=Uh (H:=[some (⟨.pb [],0,none,0,true,false,0⟩:AM.Obj),some ob1]) (a:=.sl 1 0 (qw b b.length [] 0).length 0) (l:=vT b) (by
  unfold vT
  rw [aaQ]
  have:=aaR (H:=[some (⟨.pb [],0,none,0,true,false,0⟩:AM.Obj),some ob1]) (o:=1) rfl w1
  rwa [List.length_map] at this) (by unfold vT;rw [List.length_map];omega)
 obtain ⟨ob3,w3,e3⟩:=PX (H:=[some (⟨.pb [],0,none,0,true,false,0⟩:AM.Obj),some ob1,some ob2]) (a:=.ro c (.pb b) 1) (b:=b) rfl (by omega)
 simp only [List.length_cons,List.length_nil,List.cons_append,List.nil_append] at e1 e2 e3
 unfold gq
 have g2:=w2.g;have g3:=w3.g
 generalize hr0:some (⟨.pb [],0,none,0,true,false,0⟩:AM.Obj) = r0 at *
 apply aj.seq (fr':=[(0,.ro c (.pb b) 1),(3,.sl 2 0 (oq (vT b)).1.length 0)]) (H':=[r0,some ob1,some ob2])
 ·generalize (qw b b.length [] 0).length = N1 at *
  generalize (oq (vT b)).1.length = N2 at *
  generalize (oq (vT b)).2 = er at *
  (refine ⟨0,?_⟩;simp (maxSteps:=2000000) -implicitDefEqProofs [-getElem?_pos,go_sem,eqV,ah,e1,e2,ak])
 apply aj.assoc
 apply aj.seq (fr':=[(3,.sl 2 0 (oq (vT b)).1.length 0),(5,.sl 3 0 (lC b).length 0)]) (H':=[r0,some ob1,some ob2,some ob3])
 ·generalize (oq (vT b)).1.length = N2 at *
  generalize (lC b).length = N3 at *
  (refine ⟨0,?_⟩;simp (maxSteps:=2000000) -implicitDefEqProofs [-getElem?_pos,go_sem,eqV,ah,e3,ak])
 apply aj.assoc
 by_cases hlt:(lC b).length < (oq (vT b)).1.length
 ·rw [if_pos hlt]
  have hI:((lC b).length:Int) < ((oq (vT b)).1.length:Int):=by omega
  refine aj.of (o:=⟨.ret,[(2,.sl 3 0 (lC b).length 0)],[r0,some ob1,some ob2,some ob3]⟩) ?_ ⟨rfl,3,0,ob3,rfl,rfl,w3⟩
  generalize (oq (vT b)).1.length = N2 at *
  generalize (lC b).length = N3 at *
  apply Run.seq (fr':=[(3,.sl 2 0 N2 0),(5,.sl 3 0 N3 0),(18,.bool true)]) (H':=[r0,some ob1,some ob2,some ob3])
  ·(refine ⟨0,?_⟩;simp (maxSteps:=2000000) -implicitDefEqProofs [-getElem?_pos,go_sem,eqV,ah,g2,g3,hI,hlt])
  ·refine ⟨0,?_⟩
   simp (maxSteps:=2000000) -implicitDefEqProofs [-getElem?_pos,go_sem,eqV,ah,ak]
 ·rw [if_neg hlt]
  have hI:¬ ((lC b).length:Int) < ((oq (vT b)).1.length:Int):=by omega
  refine aj.of (o:=⟨.ret,[(2,.sl 2 0 (oq (vT b)).1.length 0)],[r0,some ob1,some ob2,some ob3]⟩) ?_ ⟨rfl,2,0,ob2,rfl,rfl,w2⟩
  generalize (oq (vT b)).1.length = N2 at *
  generalize (lC b).length = N3 at *
  apply Run.seq (fr':=[(3,.sl 2 0 N2 0),(5,.sl 3 0 N3 0),(18,.bool false)]) (H':=[r0,some ob1,some ob2,some ob3])
  ·(refine ⟨0,?_⟩;simp (maxSteps:=2000000) -implicitDefEqProofs [-getElem?_pos,go_sem,eqV,ah,g2,g3,hI,hlt])
  ·refine ⟨0,?_⟩
   simp (maxSteps:=2000000) -implicitDefEqProofs [-getElem?_pos,go_sem,eqV,ah,ak]
theorem OH {H:AM.Heap} {a:AV} (ha:dP H a = some (.pb b)) (hb:b.length≤1400):∃ ob,Rw (.pb (gq b)) 0 ob∧evT X 20 [a] H = some (.sl H.length 0 (gq b).length 0,H ++ [some ob]):=by
 obtain ⟨c,x,hx⟩:=fV (C:=X) (f:=20) (i:=0) rfl ha (fF 1)
 obtain ⟨code,hc,⟨out,⟨ho,a2,g,ob,h2,h4,hw⟩,hrun⟩⟩:=J7 (m:=0) (c:=c) hb
 obtain ⟨ob',q1,q2⟩:=Ev1.Ve (C:=X) (H:=H) (bU X) (n:=(gq b).length) (l:=gq b) (rest:=[]) Try.func20 hc hx rfl (by simp [dG]) rfl rfl rfl (by
  rw [acU]
  refine ⟨out,⟨ho,a2,g,ob,?_,h4,hw⟩,hrun⟩
  show aP X out.fr out.H [.tmp 2] = _
  simp [aP,h2])
 exact ⟨ob',q1,dX q2⟩
end
end Go.Proofs.Ytcllinmgllmpmaa
namespace Go.Proofs.Ytcllinmgllmpmaa
open Go.AM
theorem Gd.one:Gd ⟨8,[1]⟩:=⟨rfl,fun i hi=>by
 unfold iU
 have:1≤i / 8:=by have hi':8≤i:=hi;omega
 obtain ⟨q,hq⟩:∃ q,i / 8 = q + 1:=⟨i / 8 - 1,by omega⟩
 simp only [hq]
 simp⟩
theorem Yw {B o:List UInt8} {x:UInt8} {j:Nat} (h:B[j]? = some x):fO B 8 (8 * j) o = .ok (x.toNat:Nat) (8 * (j + 1)) o:=by
 have hj:j < B.length:=eY h
 have:=F9 (b:=B) (k:=8 * j) (o:=o) (x:=((x.toNat:Nat):Int)) 8 (by omega) (fun i hi=>by
  unfold iU
  have e1:(8 * j + i) / 8 = j:=by omega
  have e2:(8 * j + i) % 8 = i:=by omega
  rw [e1,e2,List.getD_eq_getElem?_getD,h]
  push_cast
  rfl)
 have hx:=x.toNat_lt
 have hm:((x.toNat:Nat):Int) % 2 ^ 8 = (x.toNat:Nat):=Int.emod_eq_of_lt (by omega) (by omega)
 rw [this,hm]
 rfl
theorem Rl {B b:List UInt8} {mo:Int} {d:Nat} (hB:∀ i,i < b.length→B[d + i]? = b[i]?) (hm:(b.length:Int)≤mo):∀ n i,i + n = b.length→rF (dD (fO B 8) fun c=>qj mo (UInt8.ofNat c.toNat)) n (8 * (d + i)) (b.take i) = .ok () (8 * (d + b.length)) b
 | 0,i,h=>by
  have:i = b.length:=by omega
  subst this
  rw [List.take_length]
  rfl
 | n + 1,i,h=>by
  have hi:i < b.length:=by omega
  have hx:b[i]? = some b[i]:=List.getElem?_eq_getElem hi
  have h1:=Yw (o:=b.take i) (x:=b[i]) ((hB i hi).trans hx)
  have h2:qj mo (UInt8.ofNat (((b[i].toNat:Nat):Int)).toNat) (8 * (d + i + 1)) (b.take i) = .ok () (8 * (d + i + 1)) (b.take (i + 1)):=by
   unfold qj
   rw [if_pos (by rw [List.length_take];omega),List.take_add_one,hx]
   simp
  unfold rF
  rw [dQ (by rw [dQ h1];exact h2)]
  exact Rl hB hm n (i + 1) (by omega)
theorem Gf {b:List UInt8}:Gd (zu b)∧(zu b).k = 40∧(zu b).o.length = 5:=by
 unfold zu
 rw [f13]
 obtain ⟨a1,_,_⟩:=iC (x:=(b.length:Nat)) Gd.one 16
 obtain ⟨a2,_,_⟩:=iC (x:=-(b.length:Int) - 1) a1 16
 have k1:=(dR (x:=(b.length:Nat)) Gd.one.ok 16).2
 have k2:=(dR (x:=-(b.length:Int) - 1) a1.ok 16).2
 have hk:(dn (dn ⟨8,[1]⟩ (b.length:Nat) 16) (-(b.length:Int) - 1) 16).k = 40:=by rw [k2,k1]
 have:=a2.ok
 unfold jM at this
 exact ⟨a2,hk,by rw [this,hk]⟩
theorem AX (b:List UInt8):(lC b).length = b.length + 5:=by
 unfold lC
 rw [List.length_append,Gf.2.2]
 omega
theorem Yx {F:Nat} {b r:List UInt8} {mo:Int} (hb:b.length≤65535) (hm:(b.length:Int)≤mo) (hF:0 < F):∃ L,qp (lC b ++ r) mo F F 0 [] = .ok L (8 * (lC b).length) b:=by
 obtain ⟨F,rfl⟩:∃ g,F = g + 1:=⟨F - 1,by omega⟩
 obtain ⟨w1,w2,w3⟩:=Gf (b:=b)
 have hlen:(lC b ++ r).length = 5 + b.length + r.length:=by rw [List.length_append,AX];omega
 have hag:Agr (lC b ++ r) (zu b):=⟨by rw [w2];omega,fun i hi=>by
  unfold iU lC
  rw [List.append_assoc,List.getD_eq_getElem?_getD,List.getElem?_append_left (by rw [w2] at hi;omega),← List.getD_eq_getElem?_getD]⟩
 have hB:∀ i,i < b.length→(lC b ++ r)[5 + i]? = b[i]?:=by
  intro i hi
  unfold lC
  rw [List.append_assoc,List.getElem?_append_right (by omega),w3,show 5 + i - 5 = i by omega,List.getElem?_append_left hi]
 have hs:zu b = dn (dn ⟨8,[1]⟩ (b.length:Nat) 16) (-(b.length:Int) - 1) 16:=by unfold zu;rw [f13]
 rw [AX]
 generalize lC b ++ r = B at *
 rw [hs] at hag w2
 obtain ⟨a1,b1,_⟩:=iC (x:=(b.length:Nat)) Gd.one 16
 obtain ⟨a2,b2,_⟩:=iC (x:=-(b.length:Int) - 1) a1 16
 have x1:=Agr.ext b2 hag
 have x0:=Agr.ext b1 x1
 have bits:∀ i,i < 8→iU B i = iU [1] i:=x0.at'
 have r1:fO B 1 0 [] = .ok 1 1 []:=by
  have:=F9 (b:=B) (k:=0) (o:=[]) (x:=1) 1 (by omega) (fun i hi=>by
   have:i = 0:=by omega
   subst this
   rw [bits 0 (by omega)];rfl)
  exact this
 have r2:fO B 2 1 [] = .ok 0 3 []:=by
  have:=F9 (b:=B) (k:=1) (o:=[]) (x:=0) 2 (by omega) (fun i hi=>by
   have:i = 0∨i = 1:=by omega
   rcases this with rfl | rfl
   ·rw [bits 1 (by omega)];rfl
   ·rw [bits 2 (by omega)];rfl)
  exact this
 have r3:=uy (o:=[]) Gd.one x1
 have r4:=uy (o:=[]) a1 hag
 rw [w2] at r4
 have e3:((b.length:Nat):Int) % 2 ^ 16 = (b.length:Nat):=Int.emod_eq_of_lt (by omega) (by omega)
 have e4:(-(b.length:Int) - 1) % 2 ^ 16 = 65535 - (b.length:Nat):=by
  show (-(b.length:Int) - 1) % 65536 = _
  omega
 rw [e3] at r3
 rw [e4] at r4
 have r5:=Rl (B:=B) (d:=5) hB hm b.length 0 (by omega)
 have akQ:BI B mo 3 [] = .ok () (8 * (5 + b.length)) b:=by
  unfold BI
  rw [dQ (show Xo 3 [] = .ok () 8 [] from rfl),dQ r3,dQ r4,if_pos (by omega)]
  exact r5
 have hbl:F5 B mo (F + 1) 0 [] = .ok ⟨0,true,0,b.length⟩ (8 * (5 + b.length)) b:=by
  unfold F5
  rw [dQ r1,dQ r2]
  have hk:CQ B mo (F + 1) 0 = BI B mo:=by unfold CQ;rw [if_pos rfl]
  rw [hk,dQ akQ]
  rfl
 rw [show 8 * (b.length + 5) = 8 * (5 + b.length) by omega]
 refine ⟨[⟨0,true,0,b.length⟩],?_⟩
 unfold qp
 rw [dQ hbl,if_pos rfl]
 rfl
theorem NP {b:List UInt8} {i k:Nat}:∀ (f n j:Nat),n≤j→j < eF b i k f n→b[i + j]? = b[k + j]?
 | 0,n,j,h1,h2=>by unfold eF at h2;omega
 | f + 1,n,j,h1,h2=>by
  unfold eF at h2
  split at h2
  ·rename_i hc
   by_cases hj:j = n
   ·subst hj;exact hc.2.2
   ·exact NP f (n + 1) j (by omega) h2
  ·omega
theorem II (b:List UInt8) (p:Nat):∀ (L:List Nat) (s:Nat × Nat),(∀ x ∈ L,x < p)→uo b p L s = s∨∃ x ∈ L,p - x≤32768∧uo b p L s = (eF b x p 258 0,p - x)
 | [],s,_=>.inl rfl
 | y :: L,s,h=>by
  unfold uo
  split
  ·rename_i hc
   rcases II b p L (if s.1 < eF b y p 258 0 then (eF b y p 258 0,p - y) else s) (fun x hx=>h x (List.mem_cons_of_mem _ hx)) with e | ⟨x,hx,h1,h2⟩
   ·rw [e]
    split
    ·exact .inr ⟨y,List.mem_cons_self ..,hc.1,rfl⟩
    ·exact .inl rfl
   ·exact .inr ⟨x,List.mem_cons_of_mem _ hx,h1,h2⟩
  ·exact .inl rfl
theorem Yy {b:List UInt8} {p d:Nat} (hd:1≤d) (hdp:d≤p):∀ n,p + n≤b.length→(∀ j,j < n→b[p - d + j]? = b[p + j]?)→kQ d n (b.take p) = b.take (p + n):=by
 suffices H:∀ n q,p≤q→q + n≤b.length→(∀ j,p≤j→j < q + n→b[j - d]? = b[j]?)→kQ d n (b.take q) = b.take (q + n) by
  intro n h1 h2
  exact H n p (Nat.le_refl _) h1 fun j hj hj2=>by
   have:=h2 (j - p) (by omega)
   rw [show p - d + (j - p) = j - d by omega,show p + (j - p) = j by omega] at this
   exact this
 intro n
 induction n with
 | zero=>intro q _ _ _;rfl
 | succ n ih =>
  intro q hq h1 h2
  unfold kQ
  have hx:b[q]? = some b[q]:=List.getElem?_eq_getElem (by omega)
  have e:(b.take q).getD ((b.take q).length - d) 0 = b[q]:=by
   rw [List.length_take,Nat.min_eq_left (by omega),List.getD_eq_getElem?_getD,List.getElem?_take,if_pos (by omega),h2 q hq (by omega),hx]
   rfl
  rw [e]
  have e2:b.take q ++ [b[q]] = b.take (q + 1):=by rw [List.take_add_one,hx];rfl
  rw [e2,ih (q + 1) (by omega) (by omega) fun j hj hj2=>h2 j hj (by omega),show q + 1 + n = q + (n + 1) by omega]
theorem PY {b:List UInt8} {M:Pls} {p:Nat} (hM:Cm M p) (hp:p < b.length):(3≤(eG b M p).len∧(eG b M p).len≤258∧1≤(eG b M p).dist∧(eG b M p).dist≤32768∧(eG b M p).dist≤p∧(eG b M p).byte = 0∧kQ (eG b M p).dist (eG b M p).len (b.take p) = b.take (p + (eG b M p).len))∨(eG b M p = ⟨0,0,b.getD p 0⟩):=by
 have hfit:=xQ (M:=M) hp
 unfold eG at hfit ⊢
 by_cases h3:3≤(lQ b M p).1
 ·rw [if_pos h3] at hfit ⊢
  left
  simp only at hfit ⊢
  have PI:=(Na (M:=M) (Nat.le_of_lt hp)).2
  unfold lQ at h3 hfit PI ⊢
  split at h3
  ·rename_i hp3
   rw [if_pos hp3] at hfit PI ⊢
   have hL:∀ x ∈ (lkM M (pF b p)).reverse,x < p:=by
    intro x hx
    rw [List.mem_reverse] at hx
    unfold lkM at hx
    split at hx
    ·rename_i j hj
     obtain ⟨_,l,hl⟩:=Az hj
     rw [Nat.sub_zero] at hl
     rw [List.getD_eq_getElem?_getD,hl] at hx
     exact (hM.2 _ (List.mem_of_getElem? hl)).2.2 x hx
    ·cases hx
   rcases II b p _ (0,0) hL with e | ⟨x,hx,h1,e⟩
   ·rw [e] at h3;simp at h3
   ·have hxp:=hL x hx
    rw [e] at h3 hfit PI ⊢
    simp only at h3 hfit PI ⊢
    refine ⟨h3,PI,by omega,h1,by omega,trivial,?_⟩
    refine Yy (by omega) (by omega) _ (by omega) fun j hj=>?_
    rw [show p - (p - x) + j = x + j by omega]
    exact NP 258 0 j (by omega) hj
  ·simp at h3
 ·rw [if_neg h3]
  exact .inr rfl
theorem Yz (y:UInt8) (L:List Px) (o:List UInt8):jX (GN ⟨0,0,y⟩ :: L) o = jX L (o ++ [y]):=by
 conv=>lhs;unfold jX
 have hm:ny (GN ⟨0,0,y⟩) = true:=by unfold ny GN;rfl
 have h0:(GN ⟨0,0,y⟩).len = 0:=rfl
 rw [if_neg (by rw [hm];simp),if_pos h0]
 rfl
theorem NQ {b:List UInt8}:∀ (f:Nat) (M:Pls) (p:Nat),Cm M p→p≤b.length→b.length≤p + f→jX ((qw b f M p).map GN) (b.take p) = (b,0)
 | 0,M,p,hM,hp,hf=>by
  have:p = b.length:=by omega
  subst this
  unfold qw
  rw [List.take_length]
  rfl
 | f + 1,M,p,hM,hp,hf=>by
  unfold qw
  by_cases hlt:p < b.length
  ·rw [if_pos hlt,List.map_cons]
   have hmx:1≤max 1 (eG b M p).len:=Nat.le_max_left ..
   have ih:=NQ f (JJ b M p (max 1 (eG b M p).len)) (p + max 1 (eG b M p).len) (hM.up _) (xQ hlt) (by omega)
   generalize qw b f (JJ b M p (max 1 (eG b M p).len)) (p + max 1 (eG b M p).len) = R at *
   rcases PY hM hlt with ⟨h1,h2,h3,h4,h5,h6,h7⟩ | h
   ·have hmax:max 1 (eG b M p).len = (eG b M p).len:=by omega
    rw [hmax] at ih
    unfold jX
    have hmay:ny (GN (eG b M p)) = true:=by
     unfold ny GN
     simp only
     rw [if_neg (by omega),h6]
     simp
     omega
    rw [if_neg (by simp [hmay])]
    unfold GN
    simp only
    rw [if_neg (by omega),if_neg (by rw [List.length_take];omega)]
    simp only [Int.toNat_natCast]
    rw [h7]
    exact ih
   ·rw [h] at ih ⊢
    have hx:b[p]? = some b[p]:=List.getElem?_eq_getElem hlt
    have hg:b.getD p 0 = b[p]:=by rw [List.getD_eq_getElem?_getD,hx];rfl
    rw [Yz,hg]
    have e2:b.take p ++ [b[p]] = b.take (p + 1):=by rw [List.take_add_one,hx];rfl
    rw [e2]
    exact ih
  ·rw [if_neg hlt]
   have:p = b.length:=by omega
   subst this
   rw [List.take_length]
   rfl
theorem Uk (b:List UInt8):jX (vT b) [] = (b,0):=NQ b.length [] 0 ⟨Nat.le_refl _,fun y hy=>by cases hy⟩ (Nat.zero_le _) (by omega)
theorem Agr.app {s:Ws} (h:jM s) (r:List UInt8):Agr (s.o ++ r) s:=by
 unfold jM at h
 refine ⟨by rw [List.length_append];omega,fun i hi=>?_⟩
 unfold iU
 rw [List.getD_eq_getElem?_getD,List.getElem?_append_left (by omega),← List.getD_eq_getElem?_getD]
theorem YA (l:List Px):Gd (GL l):=by
 unfold GL
 obtain ⟨a1,_,_⟩:=iC (x:=1) Gd.nil 1
 obtain ⟨a2,_,_⟩:=iC (x:=1) a1 2
 exact (sF (J8 l a2).1).1
theorem WI {F:Nat} {out r:List UInt8} {mo:Int} {l:List Px} (he:jX l [] = (out,0)) (hm:(out.length:Int)≤mo) (hF:l.length < F):∃ L k,qp ((oq l).1 ++ r) mo F F 0 [] = .ok L k out∧(k + 7) / 8 = (oq l).1.length:=by
 have hf:(oq l).1 = (GL l).o:=by unfold oq;rw [he];rfl
 have hg:=(YA l).ok
 obtain ⟨L,h⟩:=YB (F:=F) he (Agr.app hg r) hm hF
 rw [hf]
 unfold jM at hg
 exact ⟨L,_,h,hg.symm⟩
theorem Ul {F:Nat} {b r:List UInt8} {mo:Int} (hb:b.length≤65535) (hm:(b.length:Int)≤mo) (hF:b.length < F):∃ L k,qp (gq b ++ r) mo F F 0 [] = .ok L k b∧(k + 7) / 8 = (gq b).length:=by
 unfold gq
 split
 ·obtain ⟨L,h⟩:=Yx (F:=F) (r:=r) hb hm (by omega)
  exact ⟨L,_,h,by omega⟩
 ·refine WI (Uk b) hm ?_
  have:=F8 b b.length [] 0
  unfold vT
  rw [List.length_map]
  omega
theorem Hr {F:Nat} {b r:List UInt8} {mo:Int} (hb:b.length≤65535) (hm:(b.length:Int)≤mo) (hF:b.length < F):vM F (gq b ++ r) mo = (b,(((gq b).length:Nat):Int),0):=by
 obtain ⟨L,k,h,hk⟩:=Ul (F:=F) (r:=r) hb hm hF
 rw [YC ⟨L,h⟩ hm,hk]
theorem LM (b:List UInt8):(gq b).length≤b.length + 5:=by
 unfold gq
 split
 ·rw [AX];exact Nat.le_refl _
 ·rename_i h
  rw [AX] at h
  omega
end Go.Proofs.Ytcllinmgllmpmaa
namespace Go.Proofs.Ytcllinmgllmpmaa
open Go.AM
def lo1 (lo:Int) (b:UInt8):Int:=(IntKind.u32.wrap (lo + IntKind.u32.wrap (b.toNat:Int))).tmod 65521
def hi1 (lo hi:Int) (b:UInt8):Int:=(IntKind.u32.wrap (hi + lo1 lo b)).tmod 65521
def lK:Int→Int→List UInt8→Int × Int
 | lo,hi,[]=>(lo,hi)
 | lo,hi,b :: r=>lK (lo1 lo b) (hi1 lo hi b) r
def LK (lo hi:Int):Int:=IntKind.u32.wrap ((AM.bits .u32 (IntKind.u32.wrap (hi * 2 ^ (min 16 32))) ||| AM.bits .u32 lo).toNat)
def adl (l:List UInt8):Nat:=(LK (lK 1 0 l).1 (lK 1 0 l).2).toNat
theorem IJ (n:Int):0≤IntKind.u32.wrap n∧IntKind.u32.wrap n < 4294967296:=by
 have h:IntKind.u32.wrap n = n % 4294967296:=by
  simp [IntKind.wrap,IntKind.signed,IntKind.bits]
 rw [h]
 omega
theorem Vb (l:List UInt8):LK (lK 1 0 l).1 (lK 1 0 l).2 = (adl l:Nat):=by
 unfold adl LK
 have:=IJ (((AM.bits .u32 (IntKind.u32.wrap ((lK 1 0 l).2 * 2 ^ (min 16 32))) ||| AM.bits .u32 (lK 1 0 l).1).toNat:Nat):Int)
 omega
theorem OI (l:List UInt8):adl l < 4294967296:=by
 have h1:=Vb l
 unfold LK at h1
 have:=IJ (((AM.bits .u32 (IntKind.u32.wrap ((lK 1 0 l).2 * 2 ^ (min 16 32))) ||| AM.bits .u32 (lK 1 0 l).1).toNat:Nat):Int)
 omega
def be4 (s:Nat):List UInt8:=[UInt8.ofNat (s / 16777216),UInt8.ofNat (s / 65536),UInt8.ofNat (s / 256),UInt8.ofNat s]
def un4 (r:List UInt8):Nat:=(r.getD 0 0).toNat * 16777216 + (r.getD 1 0).toNat * 65536 + (r.getD 2 0).toNat * 256 + (r.getD 3 0).toNat
theorem XC {s:Nat} (h:s < 4294967296) (r:List UInt8):un4 (be4 s ++ r) = s:=by
 unfold un4 be4
 simp only [List.cons_append,List.getD_cons_zero,List.getD_cons_succ,UInt8.toNat_ofNat']
 omega
def pY (b:List UInt8):List UInt8:=[120,1] ++ gq b ++ be4 (adl b)
def qc (b:List UInt8):Int:=if b.length < 2 then 4 else
 if (b.getD 0 0).toNat % 16 ≠ 8∨7 < (b.getD 0 0).toNat / 16∨(b.getD 1 0).toNat / 32 % 2 ≠ 0∨((b.getD 0 0).toNat * 256 + (b.getD 1 0).toNat) % 31 ≠ 0 then 5 else 0
def wH (F:Nat) (b:List UInt8) (mo:Int):List UInt8 × Int :=
 if mo < 0 then ([],2) else if qc b ≠ 0 then ([],qc b) else if (vM F (b.drop 2) mo).2.2 ≠ 0 then ([],(vM F (b.drop 2) mo).2.2) else
  if (b.drop (2 + (vM F (b.drop 2) mo).2.1.toNat)).length < 4 then ([],4) else if un4 (b.drop (2 + (vM F (b.drop 2) mo).2.1.toNat)) ≠ adl (vM F (b.drop 2) mo).1 then ([],8) else
  if 4 < (b.drop (2 + (vM F (b.drop 2) mo).2.1.toNat)).length then ([],5) else ((vM F (b.drop 2) mo).1,0)
theorem SY (b:List UInt8):(pY b).length = 6 + (gq b).length:=by
 unfold pY be4
 simp
 omega
theorem Um (l:List UInt8):qc ([120,1] ++ l) = 0:=by
 unfold qc
 rw [if_neg (by simp)]
 simp
theorem YD {F:Nat} {b r:List UInt8} {mo:Int} (hb:b.length≤65535) (hm:(b.length:Int)≤mo) (hF:b.length < F):wH F ([120,1] ++ gq b ++ r) mo =
  if r.length < 4 then ([],4) else if un4 r ≠ adl b then ([],8) else if 4 < r.length then ([],5) else (b,0):=by
 have h:=Hr (F:=F) (r:=r) hb hm hF
 have hd:([120,1] ++ gq b ++ r).drop 2 = gq b ++ r:=by simp
 have hd2:([120,1] ++ gq b ++ r).drop (2 + (gq b).length) = r:=by
  rw [← List.drop_drop,hd,List.drop_left]
 unfold wH
 rw [if_neg (by omega),List.append_assoc,Um,if_neg (by simp),← List.append_assoc,hd,h]
 simp only
 rw [if_neg (by simp),Int.toNat_natCast,hd2]
theorem XD {F:Nat} {b r:List UInt8} (hb:b.length≤65535) (hF:b.length < F) (hr:r.length = 4) (hne:un4 r ≠ adl b):wH F ([120,1] ++ gq b ++ r) (b.length:Nat) = ([],8):=by
 rw [YD hb (Int.le_refl _) hF,if_neg (by omega),if_pos hne]
end Go.Proofs.Ytcllinmgllmpmaa
namespace Go.Proofs.Ytcllinmgllmpmaa
open Go.AM
structure Is where
 k:Nat
 o:List UInt8
 e:Int
def bJ (c:Nat) (b:List UInt8) (mo:Int) (s:Is) (vo:AV) (τ1 τ:Nat):AM.Obj:=⟨.pc [.ro c (.pb b) τ1,.int .i64 (s.k:Nat),vo,.int .i64 mo,.int .i64 s.e],0,some 5,1,false,true,τ⟩
def OuV (t:Nat) (H:AM.Heap) (oa:Option Nat) (vo:AV) (l:List UInt8):Prop:=match oa with
 | none=>l = []∧∃ τ,(τ = 0∨τ = t)∧vo = .ro 0 .pn τ
 | some a=>∃ g τ ob,(τ = 0∨τ = t)∧vo = .sl a 0 l.length g∧H[a]? = some (some ob)∧RwT (.pb l) g τ ob
structure IrV (c:Nat) (b:List UInt8) (mo:Int) (t:Nat) (H:AM.Heap) (o:Nat) (oa:Option Nat) (s:Is):Prop where
 bx:∃ vo τ1 τ,(τ1 = 0∨τ1 = t)∧(τ = 0∨τ = t)∧H[o]? = some (some (bJ c b mo s vo τ1 τ))∧OuV t H oa vo s.o
 ne:∀ a,oa = some a→a ≠ o
def irS (c:Nat) (b:List UInt8) (mo:Int) (s:Is):Bool→List AM.Obj
 | false=>[bJ c b mo s (.ro 0 .pn 0) 0 0]
 | true=>[bJ c b mo s (.sl 1 0 s.o.length 0) 0 0,⟨.pb s.o,0,none,0,true,false,0⟩]
section
variable {c:Nat} {b:List UInt8} {mo:Int} {t:Nat} {H:AM.Heap} {o:Nat} {oa:Option Nat} {s:Is}
theorem BP (c:Nat) (b:List UInt8) (mo:Int) (s:Is) (r:Bool):OkS (irS c b mo s r):=by
 intro k ob0 hk x hx
 cases r
 ·cases k with
  | zero =>
   obtain rfl:=Option.some.inj hk
   simp [bJ,ids,aA] at hx
  | succ k=>simp [irS] at hk
 ·match k,hk with
  | 0,hk =>
   obtain rfl:=Option.some.inj hk
   simp [bJ,ids,aA] at hx
   subst hx
   simp [irS]
  | 1,hk =>
   obtain rfl:=Option.some.inj hk
   simp [ids] at hx
  | k + 2,hk=>simp [irS] at hk
theorem fQ (c:Nat) (b:List UInt8) (mo:Int) (s:Is) (r:Bool):(irS c b mo s r).length = if r then 2 else 1:=by cases r <;> rfl
theorem BQ (c:Nat) (b:List UInt8) (mo:Int) (s:Is) (r:Bool):reach ((irS c b mo s r).map some) aB [0] [] = List.range (irS c b mo s r).length:=by
 cases r
 ·exact qB rfl (by simp [bJ,ids,aA])
 ·show reach _ (99996 + 1 + 1 + 1 + 1) [0] [] = [0,1]
  simp [irS,bJ,reach,ids,aA]
theorem IrV.img (h:IrV c b mo t H o oa s):∃ π,Img t H π (irS c b mo s oa.isSome)∧π.map Prod.fst = o :: oa.toList∧π[0]? = some (o,0):=by
 obtain ⟨⟨vo,τ1,τ,hτ1,hτ,h0,ho⟩,hne⟩:=h
 cases oa with
 | none =>
  obtain ⟨hl,τ2,hτ2,rfl⟩:=ho
  refine ⟨[(o,0)],⟨rfl,?_,?_⟩,rfl,rfl⟩
  ·intro j k oj gj ok gk h1 h2 _
   have:=eY h1;have:=eY h2
   simp at *;omega
  ·intro k ob0 hk
   cases k with
   | succ k=>simp [irS] at hk
   | zero =>
    obtain rfl:=Option.some.inj hk
    refine ⟨o,0,_,rfl,h0,⟨?_,rfl,rfl,rfl,fun _=>⟨rfl,rfl,rfl⟩,hτ,?_⟩⟩
    ·simp [bJ,ren,bn,tz]
    ·intro k hk
     simp [bJ,tags,aU] at hk
     rcases hk with rfl | rfl
     ·exact hτ1
     ·exact hτ2
 | some a =>
  obtain ⟨g,τ2,ob,hτ2,rfl,ha,hw⟩:=ho
  have hao:=hne a rfl
  refine ⟨[(o,0),(a,g)],⟨rfl,?_,?_⟩,rfl,rfl⟩
  ·intro j k oj gj ok gk h1 h2 e
   match j,k,h1,h2 with
   | 0,0,_,_=>rfl
   | 1,1,_,_=>rfl
   | 0,1,h1,h2=>simp at h1 h2;omega
   | 1,0,h1,h2=>simp at h1 h2;omega
   | j + 2,_,h1,_=>simp at h1
   | 0,k + 2,_,h2=>simp at h2
   | 1,k + 2,_,h2=>simp at h2
  ·intro k ob0 hk
   match k,hk with
   | 0,hk =>
    obtain rfl:=Option.some.inj hk
    refine ⟨o,0,_,rfl,h0,⟨?_,rfl,rfl,rfl,fun _=>⟨rfl,rfl,rfl⟩,hτ,?_⟩⟩
    ·simp [bJ,ren,bn,tz,eP,idN]
    ·intro k hk
     simp [bJ,tags,aU] at hk
     rw [hk];exact hτ1
   | 1,hk =>
    obtain rfl:=Option.some.inj hk
    refine ⟨a,g,ob,rfl,ha,⟨by rw [hw.p];rfl,hw.g,hw.row,hw.ids,(fun h=>by cases h),by rw [hw.tg];exact hτ2,?_⟩⟩
    intro k hk
    rw [hw.p] at hk
    simp [tags] at hk
   | k + 2,hk=>simp [irS] at hk
theorem IrV.nS {π:List (Nat × Nat)} {r:Bool} (h:Img t H π (irS c b mo s r)) (h0:π[0]? = some (o,0)) (hr:r = false→s.o = []):∃ oa,IrV c b mo t H o oa s∧π.map Prod.fst = o :: oa.toList∧oa.isSome = r∧(∀ a,oa = some a→∃ g,π[1]? = some (a,g)):=by
 obtain ⟨o',g',ob,q1,q2,q3⟩:=h.ob 0 _ (by cases r <;> rfl:(irS c b mo s r)[0]? = some (bJ c b mo s (if r then .sl 1 0 s.o.length 0 else .ro 0 .pn 0) 0 0))
 rw [h0] at q1
 simp only [Option.some.injEq,Prod.mk.injEq] at q1
 obtain ⟨rfl,rfl⟩:=q1
 obtain ⟨b1,b2,_⟩:=q3.bx rfl
 obtain ⟨p,g,cap,z,row,idb,tg⟩:=ob
 have r2:=q3.gen;have r3:=q3.row;have r4:=q3.ids;have r5:=q3.tg;have r6:=q3.tp;have r1:=q3.p
 simp only [bJ] at r1 r2 r3 r4 r5 r6 b1 b2
 subst r2 r3 r4 b1 b2
 simp only [ren,bn] at r1
 obtain ⟨l1,rfl,k1⟩:=yL r1
 obtain ⟨x1,l2,rfl,e1,k2⟩:=fZ k1
 obtain ⟨x2,l3,rfl,e2,k3⟩:=fZ k2
 obtain ⟨x3,l4,rfl,e3,k4⟩:=fZ k3
 obtain ⟨x4,l5,rfl,e4,k5⟩:=fZ k4
 obtain ⟨x5,l6,rfl,e5,k6⟩:=fZ k5
 obtain rfl:=ql k6
 obtain ⟨τ1,rfl⟩:=yM e1
 obtain rfl:=rU e2
 obtain rfl:=rU e4
 obtain rfl:=rU e5
 have hτ1:τ1 = 0∨τ1 = t:=r6 τ1 (by simp [tags,aU])
 cases r with
 | false =>
  simp only [Bool.false_eq_true,if_false,ren] at e3
  obtain ⟨τ2,rfl⟩:=yM e3
  have hτ2:τ2 = 0∨τ2 = t:=r6 τ2 (by simp [tags,aU])
  have hl:=h.len
  refine ⟨none,⟨⟨_,τ1,tg,hτ1,r5,q2,hr rfl,τ2,hτ2,rfl⟩,fun a h=>by cases h⟩,?_,rfl,fun a h=>by cases h⟩
  match π,hl,h0 with
  | [x],_,h0=>simp at h0;subst h0;rfl
 | true =>
  obtain ⟨a,g,ob,p1,p2,p3⟩:=h.ob 1 _ rfl
  simp only [if_true,ren,eP,p1] at e3
  obtain rfl:=Ez e3
  have hl:=h.len
  have hne:a ≠ o:=fun e=>by have:=h.nd 1 0 a g o 0 p1 h0 e;omega
  have ep:=p3.p
  simp only [ren] at ep
  refine ⟨some a,⟨⟨_,τ1,tg,hτ1,r5,q2,g,ob.tg,ob,p3.tg,rfl,p2,JF ep,p3.gen,p3.row,p3.ids,rfl⟩,fun a' h=>by cases h;exact hne⟩,?_,rfl,fun a' h=>by cases h;exact ⟨g,p1⟩⟩
  match π,hl,h0,p1 with
  | [x,y],_,h0,p1=>simp at h0 p1;subst h0 p1;rfl
theorem Qg {f n:Nat} {fn:Func} {code:Code} {xs ys:List AV} {Q:Is→List AV→Bool→Prop} (hF:X.P.funcs[f]? = some fn) (hb:fn.body = some code) (hrw:X.rw f 0 = false) (h:IrV c b mo t H o oa s)
  (hA:∀ π K,π.map Prod.fst = o :: oa.toList→fK X f H π K 1 xs ys) (hi:aA ys = []) (hn:xs.length + 2 = n) (hng:n < dG)
  (run:∀ m E,IrV c b mo n E 0 (oa.map fun _=>1) s→aj (kE fun fr E'=>∃ s' oa' l,aP X fr E' fn.results.toList = some l∧aA l = []∧aU l = []∧eU l = true∧IrV c b mo n E' 0 oa' s'∧(oa ≠ none→oa' = some 1)∧Q s' l oa'.isSome)
   X (evT X) f m code (numbered 0 (coerce X (.ptr 0 0 0 0 :: ys) (aJ X f))) E) :
  ∃ H' oa' s' l,evT X f (.ptr o 0 0 0 :: xs) H = some (aO l,H')∧IrV c b mo t H' o oa' s'∧Q s' l oa'.isSome∧H.length≤H'.length∧(∀ a,oa = some a→oa' = some a)∧(∀ a,oa = none→oa' = some a→H.length≤a) ∧
   (∀ j,j < H.length→j ≠ o→(∀ a,oa = some a→j ≠ a)→H'[j]? = H[j]?):=by
 obtain ⟨π,hI,hπ,hπ0⟩:=h.img
 have hK:0 < (irS c b mo s oa.isSome).length:=by rw [fQ];split <;> omega
 have hA':=(hA π (irS c b mo s oa.isSome).length hπ)
 have hA2:fK X f H π (irS c b mo s oa.isSome).length 0 (.ptr o 0 0 0 :: xs) (.ptr 0 0 0 0 :: ys):=fK.ptr hI hrw hπ0 hK hA'
 have hoa:oa.isSome = false→s.o = []:=by
  intro h1
  cases oa with
  | some a=>cases h1
  | none=>obtain ⟨⟨vo,τ1,τ,_,_,_,ho⟩,_⟩:=h;exact ho.1
 obtain ⟨π'',S',v0,H',τf,hE,hτf,hI',hok',hid,⟨s',l,r',hS',hv0,hr',hQ,hil⟩,hlen,hfix,hnew,hrest⟩:=Ev1.img (C:=X) (T:=evT X) (f:=f) (H:=H) (n:=n) (ys:=.ptr 0 0 0 0 :: ys) (Q:=fun S' v0=>∃ s' l r',S' = irS c b mo s' r'∧v0 = aO l∧(r' = false→s'.o = [])∧Q s' l r'∧aA l = []∧aU l = []∧eU l = true∧(oa.isSome = true→r' = true)) (bU X) hF hb hI (BP c b mo s _) hA2
  (by rw [show aA (AV.ptr 0 0 0 0 :: ys) = [0] by simp [aA,ids,hi]];exact BQ c b mo s _) (by simp;omega) hng (by
   intro E hEl hEI
   obtain ⟨oa1,hV,hπ1,hs1,EI⟩:=IrV.nS hEI (by rw [qR,if_pos hK]) hoa
   have aaC:oa1 = oa.map fun _=>1:=by
    cases oa with
    | none=>cases oa1 with
     | none=>rfl
     | some a=>cases hs1
    | some a=>cases oa1 with
     | none=>cases hs1
     | some a1 =>
      obtain ⟨g,hg⟩:=EI a1 rfl
      rw [qR] at hg
      simp [fQ] at hg
      rw [Option.map_some,← hg.1]
   rw [aaC] at hV
   obtain ⟨out,hout,hrun⟩:=run (irS c b mo s oa.isSome).length E hV
   refine ⟨out,⟨hout.1,?_⟩,hrun⟩
   obtain ⟨s',oa',l,hr,hil,htl,hnt,hV',ho',hQ⟩:=hout.2
   obtain ⟨π',hI',hπ',EJ⟩:=hV'.img
   have Vk:oa'.isSome = false→s'.o = []:=by
    intro h1
    cases oa' with
    | some a=>cases h1
    | none=>obtain ⟨⟨vo,τ1,τ,_,_,_,ho⟩,_⟩:=hV';exact ho.1
   refine Leaves.plain hr hil htl hnt hI' (BP c b mo s' _) ?_ ?_ ?_ ?_ ⟨s',l,_,rfl,rfl,Vk,hQ,hil,htl,hnt,?_⟩
   ·rw [fQ,fQ]
    cases oa with
    | none=>cases oa'.isSome <;> simp
    | some a=>rw [ho' (by simp)];simp
   ·intro k hk
    cases oa with
    | none =>
     rw [fQ] at hk
     simp at hk
     subst hk
     exact ⟨0,EJ⟩
    | some a =>
     rw [fQ] at hk
     simp at hk
     have:k = 0∨k = 1:=by omega
     rcases this with rfl | rfl
     ·exact ⟨0,EJ⟩
     ·rw [ho' (by simp)] at hπ'
      have h1:(π'.map Prod.fst)[1]? = some 1:=by rw [hπ'];rfl
      rw [List.getElem?_map] at h1
      cases hp:π'[1]? with
      | none=>rw [hp] at h1;cases h1
      | some x =>
       rw [hp] at h1
       simp at h1
       exact ⟨x.2,by rw [← h1]⟩
   ·intro k ob ob' h1 h2
    cases hx:oa.isSome <;> cases hy:oa'.isSome <;> rw [hx] at h1 <;> rw [hy] at h2
    all_goals
     match k,h1,h2 with
     | 0,h1,h2 =>
      have e1:=Option.some.inj h1
      have e2:=Option.some.inj h2
      subst e1 e2;rfl
     | 1,h1,h2=>first | (simp [irS] at h1;done) | (simp [irS] at h2;done) | (
      have e1:=Option.some.inj h1
      have e2:=Option.some.inj h2
      subst e1 e2;rfl)
     | k + 2,h1,h2=>simp [irS] at h1
   ·intro k hk1 hk2
    cases hx:oa.isSome <;> cases hy:oa'.isSome <;> rw [hx,fQ] at hk1 <;> rw [hy,fQ] at hk2 <;> simp at hk1 hk2
    all_goals first | omega | skip
    have:k = 1:=by omega
    subst this
    rw [show List.range (irS c b mo s false).length = [0] from rfl,BQ]
    rw [fQ];simp
   ·intro h1
    cases oa with
    | none=>cases h1
    | some a=>rw [ho' (by simp)];rfl)
 subst hS' hv0
 obtain ⟨g0,hg0⟩:=hfix 0 o 0 hπ0
 have Vl:g0 = 0:=by
  obtain ⟨o',g',ob,q1,q2,q3⟩:=hI'.ob 0 _ (by cases r' <;> rfl:(irS c b mo s' r')[0]? = some (bJ c b mo s' (if r' then .sl 1 0 s'.o.length 0 else .ro 0 .pn 0) 0 0))
  rw [hg0] at q1
  simp only [Option.some.injEq,Prod.mk.injEq] at q1
  obtain ⟨_,rfl⟩:=q1
  exact (q3.bx rfl).2.2
 subst Vl
 obtain ⟨oa',hV',Vm,hs',hat'⟩:=IrV.nS hI' hg0 hr'
 obtain ⟨hil,htl,hnt,hmono⟩:=hil
 rw [jc (aO l) (by rw [lq hnt];exact hil) (fun k hk=>by rw [jW hnt,htl] at hk;cases hk)] at hE
 refine ⟨H',oa',s',l,dX hE,hV',by rw [hs'];exact hQ,hlen,?_,?_,?_⟩
 ·intro a ha
  subst ha
  cases oa' with
  | none =>
   have:=hmono rfl
   rw [this] at hs';cases hs'
  | some a' =>
   obtain ⟨g,hg⟩:=hat' a' rfl
   have h1:(π.map Prod.fst)[1]? = some a:=by rw [hπ];rfl
   rw [List.getElem?_map] at h1
   cases hp:π[1]? with
   | none=>rw [hp] at h1;cases h1
   | some x =>
    rw [hp] at h1
    simp at h1
    obtain ⟨g2,hg2⟩:=hfix 1 x.1 x.2 hp
    rw [hg] at hg2
    simp at hg2
    rw [hg2.1,h1]
 ·intro a ha ha'
  subst ha ha'
  obtain ⟨g,hg⟩:=hat' a rfl
  exact hnew 1 a g (by rw [fQ];simp) hg
 ·intro j hj hjo hja
  refine hrest j hj ?_
  intro k x g hk e
  have h1:x ∈ π.map Prod.fst:=List.mem_map.2 ⟨(x,g),List.mem_of_getElem? hk,rfl⟩
  rw [hπ] at h1
  rcases List.mem_cons.1 h1 with h1 | h1
  ·exact hjo (e.trans h1)
  ·cases oa with
   | none=>simp at h1
   | some a =>
    simp at h1
    exact hja a rfl (e.trans h1)
end
end Go.Proofs.Ytcllinmgllmpmaa
namespace Go.Proofs.Ytcllinmgllmpmaa
open Go.AM
structure Kpt (H H':AM.Heap) (o:Nat) (oa oa':Option Nat):Prop where
 len:H.length≤H'.length
 same:∀ a,oa = some a→oa' = some a
 new:∀ a,oa = none→oa' = some a→H.length≤a
 rest:∀ j,j < H.length→j ≠ o→(∀ a,oa = some a→j ≠ a)→H'[j]? = H[j]?
theorem Kpt.refl (H:AM.Heap) (o:Nat) (oa:Option Nat):Kpt H H o oa oa:=⟨Nat.le_refl _,fun _ h=>h,fun a h h2=>(by rw [h] at h2;cases h2),fun _ _ _ _=>rfl⟩
theorem Kpt.trans {H H1 H2:AM.Heap} {o:Nat} {oa oa1 oa2:Option Nat} (h:Kpt H H1 o oa oa1) (h2:Kpt H1 H2 o oa1 oa2):Kpt H H2 o oa oa2 where
 len:=Nat.le_trans h.len h2.len
 same:=fun a ha=>h2.same a (h.same a ha)
 new:=by
  intro a ha ha2
  cases h1:oa1 with
  | none=>exact Nat.le_trans h.len (h2.new a h1 ha2)
  | some x =>
   have:=h2.same x h1
   rw [ha2] at this
   cases this
   exact h.new a ha h1
 rest:=by
  intro j hj hjo hja
  rw [h2.rest j (Nat.lt_of_lt_of_le hj h.len) hjo ?_,h.rest j hj hjo hja]
  intro a ha
  cases h1:oa with
  | none=>have:=h.new a h1 ha;omega
  | some x =>
   have:=h.same x h1
   rw [ha] at this
   cases this
   exact hja a h1
theorem Kpt.upd {H:AM.Heap} {o:Nat} {oa:Option Nat} (x:Option AM.Obj):Kpt H (AM.upd H o x) o oa oa where
 len:=by simp [AM.upd]
 same:=fun _ h=>h
 new:=fun a h h2=>by rw [h] at h2;cases h2
 rest:=fun j hj hjo _=>by unfold AM.upd;rw [List.getElem?_set_ne (Ne.symm hjo)]
theorem Kpt.cat {H:AM.Heap} {o:Nat} {oa:Option Nat} (r:AM.Heap):Kpt H (H ++ r) o oa oa where
 len:=by simp
 same:=fun _ h=>h
 new:=fun a h h2=>by rw [h] at h2;cases h2
 rest:=fun j hj hjo _=>List.getElem?_append_left hj
def fM (b:List UInt8) (mo:Int) (s:Is):Prop:=s.k≤8 * b.length∧(s.o.length:Int)≤mo
def cO (b:List UInt8) (mo:Int) {α:Type} (m:PM α) (d:α) (s s':Is) (a:α):Prop :=
 fM b mo s'∧if s.e = 0 then (match m s.k s.o with
  | .ok x k o=>s' = ⟨k,o,0⟩∧a = x
  | .err e=>s'.e = e∧e ≠ 0∧a = d) else s' = s∧a = d
section
variable {b:List UInt8} {mo:Int} {α β:Type} {s s1 s2:Is}
theorem cO.bnd {m:PM α} {f:α→PM β} {d x:α} {d2 y:β} (h:cO b mo m d s s1 x) (h2:cO b mo (f x) d2 s1 s2 y):cO b mo (dD m f) d2 s s2 y:=by
 refine ⟨h2.1,?_⟩
 have h1:=h.2
 have h3:=h2.2
 by_cases he:s.e = 0
 ·rw [if_pos he] at h1 ⊢
  unfold dD
  cases hm:m s.k s.o with
  | ok a k o =>
   rw [hm] at h1
   obtain ⟨rfl,rfl⟩:=h1
   simpa using h3
  | err e =>
   rw [hm] at h1
   obtain ⟨h4,h5,rfl⟩:=h1
   rw [if_neg (by rw [h4];exact h5)] at h3
   obtain ⟨rfl,rfl⟩:=h3
   exact ⟨h4,h5,rfl⟩
 ·rw [if_neg he] at h1 ⊢
  obtain ⟨rfl,rfl⟩:=h1
  rw [if_neg he] at h3
  exact h3
theorem cO.ret {a d:α} (hs:fM b mo s) (h:s.e ≠ 0→a = d):cO b mo (mG a) d s s a:=by
 refine ⟨hs,?_⟩
 by_cases he:s.e = 0
 ·rw [if_pos he]
  exact ⟨by rw [← he],rfl⟩
 ·rw [if_neg he]
  exact ⟨rfl,h he⟩
theorem cO.map {m:PM α} {d x:α} (g:α→β) (h:cO b mo m d s s1 x):cO b mo (dD m fun a=>mG (g a)) (g d) s s1 (g x):=by
 have h1:=h.2
 refine ⟨h.1,?_⟩
 by_cases he:s.e = 0
 ·rw [if_pos he] at h1 ⊢
  unfold dD
  cases hm:m s.k s.o with
  | ok a k o =>
   rw [hm] at h1
   obtain ⟨rfl,rfl⟩:=h1
   exact ⟨rfl,rfl⟩
  | err e =>
   rw [hm] at h1
   obtain ⟨h4,h5,rfl⟩:=h1
   exact ⟨h4,h5,rfl⟩
 ·rw [if_neg he] at h1 ⊢
  obtain ⟨rfl,rfl⟩:=h1
  exact ⟨rfl,rfl⟩
theorem cO.stop {m:PM α} {d:α} (hs:fM b mo s) (he:s.e ≠ 0):cO b mo m d s s d:=⟨hs,by rw [if_neg he];exact ⟨rfl,rfl⟩⟩
theorem cO.stopped {m:PM α} {d x:α} (h:cO b mo m d s s1 x) (he:s.e ≠ 0):s1 = s∧x = d:=by
 have:=h.2
 rwa [if_neg he] at this
theorem cO.fine {m:PM α} {d x:α} (h:cO b mo m d s s1 x) (he:s1.e = 0):s.e = 0∧m s.k s.o = .ok x s1.k s1.o:=by
 have h1:=h.2
 by_cases h0:s.e = 0
 ·rw [if_pos h0] at h1
  cases hm:m s.k s.o with
  | ok a k o =>
   rw [hm] at h1
   obtain ⟨rfl,rfl⟩:=h1
   exact ⟨h0,rfl⟩
  | err e =>
   rw [hm] at h1
   exact absurd (h1.1.symm.trans he) h1.2.1
 ·rw [if_neg h0] at h1
  exact absurd (h1.1 ▸ he) h0
theorem cO.err {m:PM α} {d x:α} (h:cO b mo m d s s1 x) (h0:s.e = 0) (he:s1.e ≠ 0):m s.k s.o = .err s1.e∧x = d:=by
 have h1:=h.2
 rw [if_pos h0] at h1
 cases hm:m s.k s.o with
 | ok a k o =>
  rw [hm] at h1
  obtain ⟨rfl,rfl⟩:=h1
  exact absurd rfl he
 | err e =>
  rw [hm] at h1
  exact ⟨by rw [h1.1],h1.2.2⟩
theorem cO.Ey {m:PM α} {d:α} {e:Int} (hs:fM b mo s1) (h0:s.e = 0) (hm:m s.k s.o = .err e) (he:s1.e = e) (hne:e ≠ 0):cO b mo m d s s1 d:=⟨hs,by rw [if_pos h0,hm];exact ⟨he,hne,rfl⟩⟩
theorem cO.Qi {m:PM α} {d x:α} {k:Nat} {o:List UInt8} (hs:fM b mo ⟨k,o,0⟩) (h0:s.e = 0) (hm:m s.k s.o = .ok x k o):cO b mo m d s ⟨k,o,0⟩ x:=⟨hs,by rw [if_pos h0,hm];exact ⟨rfl,rfl⟩⟩
end
def gJ (s:Is) (e:Int):Is:=if s.e = 0 then { s with e:=e } else s
theorem cO.bad {b:List UInt8} {mo:Int} {α:Type} {s:Is} {e:Int} {d:α} (hs:fM b mo s) (he:e ≠ 0):cO b mo (nU e) d s (gJ s e) d:=by
 unfold gJ
 by_cases h0:s.e = 0
 ·rw [if_pos h0]
  exact cO.Ey (e:=e) ⟨hs.1,hs.2⟩ h0 rfl rfl he
 ·rw [if_neg h0]
  exact cO.stop hs h0
section
variable {c:Nat} {b:List UInt8} {mo:Int} {t:Nat} {H:AM.Heap} {o:Nat} {oa:Option Nat} {s:Is}
theorem OuV.upd {vo:AV} {l:List UInt8} {x:Option AM.Obj} (h:OuV t H oa vo l) (hne:∀ a,oa = some a→a ≠ o):OuV t (AM.upd H o x) oa vo l:=by
 cases oa with
 | none=>exact h
 | some a =>
  obtain ⟨g,τ,ob,h1,h2,h3,h4⟩:=h
  exact ⟨g,τ,ob,h1,h2,wB h3 (Ne.symm (hne a rfl)),h4⟩
theorem IrV.set {s':Is} {vo:AV} {τ1 τ:Nat} (hne:∀ a,oa = some a→a ≠ o) (h1:τ1 = 0∨τ1 = t) (h2:τ = 0∨τ = t) (ho:o < H.length) (hv:OuV t H oa vo s'.o):IrV c b mo t (AM.upd H o (some (bJ c b mo s' vo τ1 τ))) o oa s' :=
 ⟨⟨vo,τ1,τ,h1,h2,by unfold AM.upd;rw [List.getElem?_set_self ho],hv.upd hne⟩,hne⟩
theorem IrV.lt (h:IrV c b mo t H o oa s):o < H.length∧∀ a,oa = some a→a < H.length:=by
 obtain ⟨⟨vo,τ1,τ,_,_,h0,ho⟩,_⟩:=h
 refine ⟨eY h0,fun a ha=>?_⟩
 subst ha
 obtain ⟨g,τ,ob,_,_,h3,_⟩:=ho
 exact eY h3
theorem IrV.keep {H':AM.Heap} (h:IrV c b mo t H o oa s) (h1:H'[o]? = H[o]?) (h2:∀ a,oa = some a→H'[a]? = H[a]?):IrV c b mo t H' o oa s:=by
 obtain ⟨⟨vo,τ1,τ,a1,a2,h0,ho⟩,hne⟩:=h
 refine ⟨⟨vo,τ1,τ,a1,a2,by rw [h1];exact h0,?_⟩,hne⟩
 cases oa with
 | none=>exact ho
 | some a =>
  obtain ⟨g,τ,ob,b1,b2,b3,b4⟩:=ho
  exact ⟨g,τ,ob,b1,b2,by rw [h2 a rfl];exact b3,b4⟩
theorem IrV.cat {r:AM.Heap} (h:IrV c b mo t H o oa s):IrV c b mo t (H ++ r) o oa s:=h.keep (List.getElem?_append_left h.lt.1) fun a ha=>List.getElem?_append_left (h.lt.2 a ha)
theorem IrV.other {j:Nat} {x:Option AM.Obj} (h:IrV c b mo t H o oa s) (h1:j ≠ o) (h2:∀ a,oa = some a→j ≠ a):IrV c b mo t (AM.upd H j x) o oa s :=
 h.keep (by unfold AM.upd;rw [List.getElem?_set_ne h1]) fun a ha=>by unfold AM.upd;rw [List.getElem?_set_ne (h2 a ha)]
theorem Gg {m:Nat} {e:Int} {E:AM.Heap} (h:IrV c b mo t E 0 oa s):∃ code,Try.f39.body = some code ∧
  aj (kE fun fr E'=>IrV c b mo t E' 0 oa (gJ s e)) X (evT X) 39 m code [(0,.ptr 0 0 0 0),(1,.int .i64 e)] E:=by
 refine ⟨_,rfl,?_⟩
 obtain ⟨⟨vo,τ1,τ,a1,a2,h0,ho⟩,hne⟩:=id h
 unfold gJ
 by_cases he:s.e = 0
 ·rw [if_pos he]
  refine ⟨⟨.normal,[],AM.upd E 0 (some (bJ c b mo { s with e:=e } vo τ1 τ))⟩,⟨.inl rfl,IrV.set hne a1 a2 h.lt.1 ho⟩,?_⟩
  simp only [bJ,he] at h0 ⊢
  (refine ⟨0,?_⟩;simp (maxSteps:=2000000) -implicitDefEqProofs [-getElem?_pos,go_sem,eqV,ah,h0])
 ·rw [if_neg he]
  have heb:(s.e == 0) = false:=by simpa using he
  refine ⟨⟨.normal,[(0,.ptr 0 0 0 0),(1,.int .i64 e),(8,.bool false)],E⟩,⟨.inl rfl,h⟩,?_⟩
  simp only [bJ] at h0
  (refine ⟨0,?_⟩;simp (maxSteps:=2000000) -implicitDefEqProofs [-getElem?_pos,go_sem,eqV,ah,h0,he,heb])
theorem lI {e:Int} (h:IrV c b mo t H o oa s):∃ H',evT X 39 [.ptr o 0 0 0,.int .i64 e] H = some (.tup [],H')∧IrV c b mo t H' o oa (gJ s e)∧Kpt H H' o oa oa:=by
 obtain ⟨code,hc,_⟩:=Gg (m:=0) (e:=e) (E:=[some (bJ c b mo s (.ro 0 .pn 0) 0 0)]) (c:=c) (b:=b) (mo:=mo) (t:=0) (oa:=none) (s:=⟨s.k,[],s.e⟩) ⟨⟨_,0,0,.inl rfl,.inl rfl,rfl,rfl,0,.inl rfl,rfl⟩,fun a h=>by cases h⟩
 obtain ⟨H',oa',s',l,hE,hV,⟨hs,hl,hr⟩,h1,h2,h3,h4⟩:=Qg (f:=39) (n:=3) (xs:=[.int .i64 e]) (ys:=[.int .i64 e]) (Q:=fun s' l r=>s' = gJ s e∧l = []∧r = oa.isSome) Try.func39 hc rfl h (fun π K _=>fK.flat rfl rfl fK.nil) rfl rfl (by simp [dG]) (by
  intro m E hE
  obtain ⟨pq,hc2,ht⟩:=Gg (m:=m) (e:=e) hE
  rw [hc] at hc2
  obtain rfl:=Option.some.inj hc2
  rw [acX]
  exact ht.mono fun o ho=>⟨ho.1,_,_,[],rfl,rfl,rfl,rfl,ho.2,fun h=>(by cases oa with
   | none=>exact absurd rfl h
   | some a=>rfl),rfl,rfl,by cases oa <;> rfl⟩)
 subst hs hl
 have hoa:oa' = oa:=by
  cases oa with
  | none=>cases oa' with
   | none=>rfl
   | some a=>cases hr
  | some a=>exact h2 a rfl
 subst hoa
 exact ⟨H',hE,hV,⟨h1,h2,h3,h4⟩⟩
theorem qQ {e:Int} (h:IrV c b mo t H o oa s):∃ H' oa',evT X 39 [.ptr o 0 0 0,.int .i64 e] H = some (.tup [],H')∧IrV c b mo t H' o oa' (gJ s e)∧Kpt H H' o oa oa':=by
 obtain ⟨H',h1,h2,h3⟩:=lI (e:=e) h
 exact ⟨H',oa,h1,h2,h3⟩
theorem bsB (H:AM.Heap) (y:UInt8):dA X H 22 1 [(0,.int .u8 (y.toNat:Nat))] = some (.ro 1 (.pb [y]) 0,H):=by
 have:=y.toNat_lt
 have h1:(y.toNat:Int) < 256:=by omega
 simp [dA,jR,uN,mkRow,jO,dZ,cellsOf,scalars,scalar,aA,ids,aU,tags,dO,h1]
theorem OuV.app {vo:AV} {l:List UInt8} (y:UInt8) (h:OuV t H oa vo l) (hH:0 < H.length) (hne:∀ a,oa = some a→a ≠ 0) (hl:l.length≤10000000):∃ v' H' oa',dw X H 22 vo (.ro 1 (.pb [y]) 0) = some (v',H')∧OuV t H' oa' v' (l ++ [y])∧Kpt H H' 0 oa oa'∧H'[0]? = H[0]?∧(∀ a,oa' = some a→a ≠ 0):=by
 cases oa with
 | none =>
  obtain ⟨rfl,τ,hτ,rfl⟩:=h
  have hat:(H ++ [some (⟨.pb [y],0,none,0,true,false,0⟩:AM.Obj)])[H.length]? = some (some ⟨.pb [y],0,none,0,true,false,0⟩):=by simp
  refine ⟨.sl H.length 0 1 0,H ++ [some ⟨.pb [y],0,none,0,true,false,0⟩],some H.length,?_,⟨0,0,_,.inl rfl,rfl,hat,⟨rfl,rfl,rfl,rfl,rfl⟩⟩,⟨by simp,fun a h=>(by cases h),fun a _ h=>(by cases h;exact Nat.le_refl _),fun j hj _ _=>List.getElem?_append_left hj⟩,List.getElem?_append_left hH,fun a h=>by cases h;omega⟩
  simp only [dw,vI,zX,Jp]
  simp [lV,pI,ah,rD,fP,rE,bT,aN]
 | some a =>
  obtain ⟨g,τ,ob,hτ,rfl,ho,hw⟩:=h
  obtain ⟨ob',w1,w2⟩:=JE (C:=X) (T:=22) (e:=5) (src:=.ro 1 (.pb [y]) 0) (m:=[y]) vI SQ zX bytes5 Jp ho hw (.inl (by simp [lV,pI,rD])) (by simp;omega)
  refine ⟨_,_,some a,w2,⟨g + 1,τ,ob',hτ,by simp,setAt ho,w1⟩,⟨by simp [AM.upd],fun a' h=>h,fun a' h=>(by cases h),fun j hj h0 hja=>by unfold AM.upd;rw [List.getElem?_set_ne (Ne.symm (hja a rfl))]⟩,by unfold AM.upd;rw [List.getElem?_set_ne (hne a rfl)],hne⟩
theorem adq {m:Nat} {y:UInt8} {E:AM.Heap} {bb:Bool} (h:IrV c b mo t E 0 oa s):∃ code,((Try.f64.body).bind (aI [1,0,0])) = some code∧Run X (evT X) 64 m code [(0,.ptr 0 0 0 0),(1,.int .u8 (y.toNat:Nat)),(8,.bool bb)] E ⟨.normal,[(0,.ptr 0 0 0 0),(1,.int .u8 (y.toNat:Nat)),(18,.bool (decide (mo≤s.o.length)))],E⟩:=by
 refine ⟨_,rfl,?_⟩
 obtain ⟨⟨vo,τ1,τ,a1,a2,h0,ho⟩,hne⟩:=id h
 simp only [bJ] at h0
 cases oa with
 | none =>
  obtain ⟨h1,τ2,hτ2,rfl⟩:=ho
  rw [h1]
  (refine ⟨0,?_⟩;simp (maxSteps:=2000000) -implicitDefEqProofs [-getElem?_pos,go_sem,eqV,ah,h0])
 | some a =>
  obtain ⟨g,τ2,ob,hτ2,rfl,h3,h4⟩:=ho
  have hg:=h4.g
  generalize s.o.length = N at *
  (refine ⟨0,?_⟩;simp (maxSteps:=2000000) -implicitDefEqProofs [-getElem?_pos,go_sem,eqV,ah,h0,h3,hg])
theorem SA {m:Nat} {y:UInt8} {E:AM.Heap} (h:IrV c b mo t E 0 oa s) (hs:fM b mo s) (hm:mo≤1000000):∃ code,Try.f64.body = some code ∧
  aj (kE fun fr E'=>∃ s' oa',IrV c b mo t E' 0 oa' s'∧(∀ a,oa = some a→oa' = some a)∧cO b mo (qj mo y) () s s' ()) X (evT X) 64 m code [(0,.ptr 0 0 0 0),(1,.int .u8 (y.toNat:Nat))] E:=by
 refine ⟨_,rfl,?_⟩
 obtain ⟨⟨vo,τ1,τ,a1,a2,h0,ho⟩,hne⟩:=id h
 by_cases he:s.e = 0
 ·apply aj.seq (fr':=[(0,.ptr 0 0 0 0),(1,.int .u8 (y.toNat:Nat)),(8,.bool false)]) (H':=E)
  ·simp only [bJ,he] at h0
   (refine ⟨0,?_⟩;simp (maxSteps:=2000000) -implicitDefEqProofs [-getElem?_pos,go_sem,eqV,ah,h0])
  apply aj.assoc
  apply aj.seq (piece (adq h) _ rfl)
  by_cases hl:(s.o.length:Int) < mo
  ·have hlI:decide (mo≤(s.o.length:Int)) = false:=by simpa using hl
   rw [hlI]
   have hbs:=bsB E y
   obtain ⟨v',E',oa',hA,hv',hk,hE0,hne'⟩:=ho.app y h.lt.1 hne (by omega)
   have h0':E'[0]? = some (some (bJ c b mo s vo τ1 τ)):=by rw [hE0];exact h0
   refine ⟨⟨.normal,[],AM.upd E' 0 (some (bJ c b mo ⟨s.k,s.o ++ [y],0⟩ v' τ1 τ))⟩,⟨.inl rfl,⟨s.k,s.o ++ [y],0⟩,oa',IrV.set hne' a1 a2 (eY h0') hv',hk.same,cO.Qi ⟨hs.1,by simp;omega⟩ he (by simp [qj,hl])⟩,?_⟩
   simp only [bJ,he] at h0 h0' ⊢
   cases oa' with
   | none=>exact absurd hv'.1 (by simp)
   | some a =>
    obtain ⟨g,τ2,ob,_,rfl,_⟩:=hv'
    generalize (s.o ++ [y]).length = N at *
    (refine ⟨0,?_⟩;simp (maxSteps:=2000000) -implicitDefEqProofs [-getElem?_pos,go_sem,eqV,ah,h0,h0',hbs,hA])
  ·have hlI:decide (mo≤(s.o.length:Int)) = true:=by simp;omega
   rw [hlI]
   obtain ⟨H',oa',hE,hV,hk⟩:=qQ (e:=3) h
   have hfs:gJ s 3 = { s with e:=3 }:=by unfold gJ;rw [if_pos he]
   refine ⟨⟨.ret,[],H'⟩,⟨.inr rfl,_,oa',hV,hk.same,?_⟩,?_⟩
   ·rw [hfs]
    exact cO.Ey (e:=3) ⟨hs.1,hs.2⟩ he (by simp [qj,hl]) rfl (by simp)
   ·(refine ⟨0,?_⟩;simp (maxSteps:=2000000) -implicitDefEqProofs [-getElem?_pos,go_sem,eqV,ah,hE])
 ·refine ⟨⟨.ret,[(0,.ptr 0 0 0 0),(1,.int .u8 (y.toNat:Nat)),(8,.bool true)],E⟩,⟨.inr rfl,s,oa,h,fun a ha=>ha,cO.stop hs he⟩,?_⟩
  have heb:(s.e != 0) = true:=by simpa using he
  simp only [bJ] at h0
  (refine ⟨0,?_⟩;simp (maxSteps:=2000000) -implicitDefEqProofs [-getElem?_pos,go_sem,eqV,ah,h0,he,heb])
end
end Go.Proofs.Ytcllinmgllmpmaa
