/- EG to ID: texts of this claim, one behind the other; what each shows stands at its head. -/
import Derived.Test.YtcllinmgllmpmaaAm3
import Derived.Test.YtcllinmgllmpmaaMg4
set_option linter.unusedSimpArgs false
set_option linter.unusedVariables false
set_option maxRecDepth 100000
set_option maxHeartbeats 8000000
namespace Go.Proofs.Ytcllinmgllmpmaa
open Go.AM
theorem Yp {s:Ws} {cs ls:List Int} {y:Nat} (h:jO s) (hk:1≤s.k):(jM s cs ls y).o ≠ []:=by
 obtain ⟨h1,h2⟩:=kE (cs:=cs) (ls:=ls) (y:=y) h
 intro e
 unfold jO at h1
 rw [e] at h1
 simp at h1
 omega
theorem Yq {l:List Px} (hm:∀ x ∈ l,nC x = true):(GH l).o ≠ []:=by
 unfold GH
 have h0:jO ⟨0,[]⟩:=rfl
 obtain ⟨h1,h2⟩:=dU (x:=1) h0 1
 obtain ⟨h3,h4⟩:=dU (x:=1) h1 2
 obtain ⟨h5,h6⟩:=FZ l _ h3 hm
 have hmono:∀ (l:List Px) (s:Ws),jO s→(∀ x ∈ l,nC x = true)→s.k≤(l.foldl pxW s).k:=by
  intro l
  induction l with
  | nil=>intro s _ _;exact Nat.le_refl _
  | cons x l ih =>
   intro s hs hm
   obtain ⟨h1,_⟩:=PV hs (hm x (List.mem_cons_self ..))
   refine Nat.le_trans ?_ (ih (pxW s x) h1 fun y hy=>hm y (List.mem_cons_of_mem _ hy))
   unfold pxW
   split
   ·have:=(kE (cs:=lcL) (ls:=flL) (y:=x.byte.toNat) hs).2
    omega
   ·have a1:=kE (cs:=lcL) (ls:=flL) (y:=(lenOf x.len.toNat).1) hs
    have a2:=dU (x:=x.len - ((lenOf x.len.toNat).2.1:Nat)) a1.1 (lenOf x.len.toNat).2.2
    have a3:=kE (cs:=dcL) (ls:=flD) (y:=(eX x.dist.toNat).1) a2.1
    have a4:=dU (x:=x.dist - ((eX x.dist.toNat).2.1:Nat)) a3.1 (eX x.dist.toNat).2.2
    have b1:=a1.2;have b2:=a2.2;have b3:=a3.2;have b4:=a4.2
    omega
 have:=hmono l _ h3 hm
 exact Yp h5 (by omega)
theorem Rl {H:AM.Heap} {o:Nat} {l:List Int} (h:H[o]? = some (some (flO l))):dR H (.sl o 0 l.length 0) = some (.pi .i64 l):=by
 simp [dR,live,h,flO,iY]
theorem alC:mO X 66 [] = some (.agg (.pc [.ro 0 .pn 0,.int .i64 0])):=by kernel_rfl
def fiX (l:List Px) (fr:AM.Frame) (E:AM.Heap):Prop:=∃ a g ob,ay fr 2 = .sl a 0 (oz l).1.length g∧ay fr 3 = .int .i64 (oz l).2∧E[a]? = some (some ob)∧Rw (.pb (oz l).1) g ob
section
variable {c:Nat} {l:List Px}
theorem PW {m:Nat} (hl:l.length≤2000):∃ code,Try.f26.body = some code∧aj (qp (fiX l)) X (evT X) 26 m code [(0,.ro c (.pr 3 (l.map pxR)) 1)] []:=by
 refine ⟨_,rfl,?_⟩
 obtain ⟨obE,hwE,hEx⟩:=TW (H:=[some (⟨.pb [],0,none,0,true,false,0⟩:AM.Obj)]) (a:=.ro c (.pr 3 (l.map pxR)) 1) (l:=l) rfl hl
 have hmay:=J7 (l:=l) (o:=[])
 unfold fiX oz
 generalize hex:jY l [] = r at *
 obtain ⟨o,e⟩:=r
 simp only at hEx hmay ⊢
 apply aj.seq (fr':=[(0,.ro c (.pr 3 (l.map pxR)) 1)]) (H':=[some (⟨.pb [],0,none,0,true,false,0⟩:AM.Obj)])
 ·generalize l.map pxR = R at *
  (refine ⟨0,?_⟩;simp (maxSteps:=2000000) -implicitDefEqProofs [-getElem?_pos,go_sem,eqV,ah,ak,rowOf,TK])
 apply aj.assoc
 apply aj.seq (fr':=[(0,.ro c (.pr 3 (l.map pxR)) 1),(5,.int .i64 e)]) (H':=[some (⟨.pb [],0,none,0,true,false,0⟩:AM.Obj),some obE])
 ·simp only [List.length_singleton,List.singleton_append] at hEx
  generalize l.map pxR = R at *
  generalize o.length = K at *
  (refine ⟨0,?_⟩;simp (maxSteps:=2000000) -implicitDefEqProofs [-getElem?_pos,go_sem,eqV,ah,hEx,ak])
 apply aj.assoc
 by_cases he:¬ e = 0
 ·have heb:(e != 0) = true:=by simpa using he
  rw [if_pos he]
  refine aj.of (o:=⟨.ret,[(2,.sl 2 0 0 0),(3,.int .i64 e)],[some (⟨.pb [],0,none,0,true,false,0⟩:AM.Obj),some obE,some (⟨.pb [],0,none,0,true,false,0⟩:AM.Obj)]⟩) ?_ ⟨rfl,2,0,_,rfl,rfl,rfl,⟨rfl,rfl,rfl,rfl,rfl⟩⟩
  apply Run.seq (fr':=[(0,.ro c (.pr 3 (l.map pxR)) 1),(5,.int .i64 e),(24,.bool true)]) (H':=[some (⟨.pb [],0,none,0,true,false,0⟩:AM.Obj),some obE])
  ·generalize l.map pxR = R at *
   (refine ⟨0,?_⟩;simp (maxSteps:=2000000) -implicitDefEqProofs [-getElem?_pos,go_sem,eqV,ah,he,heb])
  refine Run.bI ?_ (by simp)
  refine Run.cond (d:=true) (by simp [aG,ay]) ?_
  apply Run.seq (fr':=[(2,.sl 2 0 0 0),(3,.int .i64 e)]) (H':=[some (⟨.pb [],0,none,0,true,false,0⟩:AM.Obj),some obE,some (⟨.pb [],0,none,0,true,false,0⟩:AM.Obj)])
  ·generalize l.map pxR = R at *
   (refine ⟨0,?_⟩;simp (maxSteps:=2000000) -implicitDefEqProofs [-getElem?_pos,go_sem,eqV,ah,ak,rowOf,TK])
  ·exact ⟨0,rfl⟩
 have he:e = 0:=Classical.not_not.1 he
 subst he
 rw [if_neg (by simp)]
 simp only
 have hm:=hmay rfl
 apply aj.seq (fr':=[(0,.ro c (.pr 3 (l.map pxR)) 1),(5,.int .i64 0),(24,.bool false)]) (H':=[some (⟨.pb [],0,none,0,true,false,0⟩:AM.Obj),some obE])
 ·generalize l.map pxR = R at *
  (refine ⟨0,?_⟩;simp (maxSteps:=2000000) -implicitDefEqProofs [-getElem?_pos,go_sem,eqV,ah])
 apply aj.seq (fr':=[(0,.ro c (.pr 3 (l.map pxR)) 1),(5,.int .i64 0),(24,.bool false)]) (H':=[some (⟨.pb [],0,none,0,true,false,0⟩:AM.Obj),some obE])
 ·exact Run.cond (d:=false) (by simp [aG,ay]) ⟨0,rfl⟩
 have hF:=agU [some (⟨.pb [],0,none,0,true,false,0⟩:AM.Obj),some obE]
 have hC1:=Rf (H:=[some (⟨.pb [],0,none,0,true,false,0⟩:AM.Obj),some obE,some (flO flL),some (flO flD)]) (a:=.sl 2 0 288 0) (l:=flL) (by have:=Rl (H:=[some (⟨.pb [],0,none,0,true,false,0⟩:AM.Obj),some obE,some (flO flL),some (flO flD)]) (o:=2) (l:=flL) rfl;rwa [rZ] at this) aao
 have hC2:=Rf (H:=[some (⟨.pb [],0,none,0,true,false,0⟩:AM.Obj),some obE,some (flO flL),some (flO flD),ou 288 lcL]) (a:=.sl 3 0 32 0) (l:=flD) (by have:=Rl (H:=[some (⟨.pb [],0,none,0,true,false,0⟩:AM.Obj),some obE,some (flO flL),some (flO flD),ou 288 lcL]) (o:=3) (l:=flD) rfl;rwa [DZ] at this) aap
 rw [rZ] at hC1
 rw [DZ] at hC2
 simp only [List.length_cons,List.length_nil,List.cons_append,List.nil_append] at hF hC1 hC2
 change evT X _ _ _ = some (_,[_,_,_,_,ou 288 lcL]) at hC1
 change evT X _ _ _ = some (_,[_,_,_,_,_,ou 32 dcL]) at hC2
 have hV:FxV [some (⟨.pb [],0,none,0,true,false,0⟩:AM.Obj),some obE,some (flO flL),some (flO flD),ou 288 lcL,ou 32 dcL,some (jv ⟨0,[]⟩ (.ro 0 .pn 0) 0)] 2 3 4 5 6 none ⟨0,[]⟩:=⟨rfl,rfl,rfl,rfl,⟨⟨_,0,.inl rfl,rfl,rfl,0,.inl rfl,rfl⟩,fun a h=>by cases h⟩,by omega,fun a h=>(by cases h),rfl⟩
 generalize ou 288 lcL = r8 at *
 generalize ou 32 dcL = r10 at *
 generalize some (flO flL) = r6 at *
 generalize some (flO flD) = r7 at *
 generalize some (⟨.pb [],0,none,0,true,false,0⟩:AM.Obj) = r0 at *
 apply aj.seq (fr':=[(0,.ro c (.pr 3 (l.map pxR)) 1),(6,.sl 2 0 288 0),(7,.sl 3 0 32 0)]) (H':=[r0,some obE,r6,r7])
 ·generalize l.map pxR = R at *
  (refine ⟨0,?_⟩;simp (maxSteps:=2000000) -implicitDefEqProofs [-getElem?_pos,go_sem,eqV,ah,hF,ak])
 apply aj.seq (fr':=[(0,.ro c (.pr 3 (l.map pxR)) 1),(6,.sl 2 0 288 0),(7,.sl 3 0 32 0),(8,.sl 4 0 288 0)]) (H':=[r0,some obE,r6,r7,r8])
 ·generalize l.map pxR = R at *
  (refine ⟨0,?_⟩;simp (maxSteps:=2000000) -implicitDefEqProofs [-getElem?_pos,go_sem,eqV,ah,hC1,ak])
 apply aj.seq (fr':=[(0,.ro c (.pr 3 (l.map pxR)) 1),(6,.sl 2 0 288 0),(7,.sl 3 0 32 0),(8,.sl 4 0 288 0),(10,.sl 5 0 32 0)]) (H':=[r0,some obE,r6,r7,r8,r10])
 ·generalize l.map pxR = R at *
  (refine ⟨0,?_⟩;simp (maxSteps:=2000000) -implicitDefEqProofs [-getElem?_pos,go_sem,eqV,ah,hC2,ak])
 apply aj.seq (fr':=[(0,.ro c (.pr 3 (l.map pxR)) 1),(6,.sl 2 0 288 0),(7,.sl 3 0 32 0),(8,.sl 4 0 288 0),(10,.sl 5 0 32 0),(12,.ptr 6 0 0 0)]) (H':=[r0,some obE,r6,r7,r8,r10,some (jv ⟨0,[]⟩ (.ro 0 .pn 0) 0)])
 ·simp only [jv]
  generalize l.map pxR = R at *
  (refine ⟨0,?_⟩;simp (maxSteps:=2000000) -implicitDefEqProofs [-getElem?_pos,go_sem,eqV,ah,alC,ak])
 clear hC1 hC2 hF hEx
 generalize [r0,some obE,r6,r7,r8,r10,some (jv ⟨0,[]⟩ (.ro 0 .pn 0) 0)] = E0 at *
 obtain ⟨E1,oa1,g1,g2,g3⟩:=oD (x:=1) (I:=1) (n:=1) rfl hV.wr hV.ok (by simp) (by omega)
 have hV1:=hV.step g2 g3 (dU hV.ok 1).1
 apply aj.seq (fr':=[(0,.ro c (.pr 3 (l.map pxR)) 1),(6,.sl 2 0 288 0),(7,.sl 3 0 32 0),(8,.sl 4 0 288 0),(10,.sl 5 0 32 0),(12,.ptr 6 0 0 0)]) (H':=E1)
 ·generalize l.map pxR = R at *
  (refine ⟨0,?_⟩;simp (maxSteps:=2000000) -implicitDefEqProofs [-getElem?_pos,go_sem,eqV,ah,g1])
 have k1:=(dU (x:=1) hV.ok 1).2
 obtain ⟨E2,oa2,g4,g5,g6⟩:=oD (x:=1) (I:=2) (n:=2) rfl hV1.wr hV1.ok (by rw [k1];simp) (by omega)
 have hV2:=hV1.step g5 g6 (dU hV1.ok 2).1
 have k2:=(dU (x:=1) hV1.ok 2).2
 apply aj.seq (fr':=[(0,.ro c (.pr 3 (l.map pxR)) 1),(6,.sl 2 0 288 0),(7,.sl 3 0 32 0),(8,.sl 4 0 288 0),(10,.sl 5 0 32 0),(12,.ptr 6 0 0 0)]) (H':=E2)
 ·generalize l.map pxR = R at *
  (refine ⟨0,?_⟩;simp (maxSteps:=2000000) -implicitDefEqProofs [-getElem?_pos,go_sem,eqV,ah,g4])
 apply aj.assoc
 apply aj.seq (fr':=oC 2 3 4 5 6 c l 0) (H':=E2)
 ·have hll:(l.map pxR).length = l.length:=by simp
  simp only [oC]
  generalize l.map pxR = R at *
  generalize l.length = N at *
  (refine ⟨0,?_⟩;simp (maxSteps:=2000000) -implicitDefEqProofs [-getElem?_pos,go_sem,eqV,ah,hll])
 have hk3:(dD (dD ⟨0,[]⟩ 1 1) 1 2).k≤100:=by rw [k2,k1];simp
 apply aj.andThen (piece (Yr (m:=m) (c:=c) hV2 hk3 hl hm) _ rfl)
 rintro fr E3 ⟨oa3,rfl,hV3⟩
 have hk4:=(FZ l _ hV2.ok hm).2
 obtain ⟨E4,oa4,hV4,alD⟩:=aaH (m:=m) (c:=c) (i:=l.length) (l:=l) (tl:=[(49,.bool false)]) hV3 (by omega)
 apply aj.seq (piece alD _ rfl)
 have hne:=Yq hm
 unfold GH at hne ⊢
 obtain ⟨a,g,ob,q1,q2,alE⟩:=aaI (m:=m) hV4 hne
 generalize (jM (l.foldl pxW (dD (dD ⟨0,[]⟩ 1 1) 1 2)) lcL flL 256).o = B at *
 apply aj.seq (piece alE _ rfl)
 exact aj.of (o:=⟨.ret,[(2,.sl a 0 B.length g),(3,.int .i64 0)],E4⟩) ⟨0,rfl⟩ ⟨rfl,a,g,ob,rfl,rfl,q1,q2⟩
theorem Uh {H:AM.Heap} {a:AV} (ha:dR H a = some (.pr 3 (l.map pxR))) (hl:l.length≤2000):∃ ob,Rw (.pb (oz l).1) 0 ob∧evT X 26 [a] H = some (.tup [.sl H.length 0 (oz l).1.length 0,.int .i64 (oz l).2],H ++ [some ob]):=by
 obtain ⟨c,x,hx⟩:=gq (C:=X) (f:=26) (i:=0) rfl ha (fG 1)
 obtain ⟨code,hc,⟨out,⟨ho,a2,g,ob,h2,h3,h4,hw⟩,hrun⟩⟩:=PW (m:=0) (c:=c) (l:=l) hl
 obtain ⟨ob',q1,q2⟩:=Ev1.Vb (C:=X) (H:=H) (bW X) (n:=(oz l).1.length) (l:=(oz l).1) (rest:=[.int .i64 (oz l).2]) Try.func26 hc hx rfl (by simp [dI]) rfl rfl rfl (by
  rw [acR]
  refine ⟨out,⟨ho,a2,g,ob,?_,h4,hw⟩,hrun⟩
  show aP X out.fr out.H [.tmp 2,.tmp 3] = _
  simp [aP,h2,h3])
 exact ⟨ob',q1,dZ (by simpa [aO,fB] using q2)⟩
end
end Go.Proofs.Ytcllinmgllmpmaa
namespace Go.Proofs.Ytcllinmgllmpmaa
open Go.AM
def zu (b:List UInt8):Ws:=dD (dD ⟨8,(dD ⟨0,[]⟩ 1 3).o⟩ (b.length:Nat) 16) (-(b.length:Int) - 1) 16
def lD (b:List UInt8):List UInt8:=(zu b).o ++ b
theorem f13:(dD ⟨0,[]⟩ 1 3) = ⟨3,[1]⟩:=by kernel_rfl
theorem alF:mO X 66 [] = some (.agg (.pc [.ro 0 .pn 0,.int .i64 0])):=by kernel_rfl
theorem adg:bU X 5 = .pb []:=by kernel_rfl
theorem alG {L:Nat} (h:L≤65535):IntKind.i64.wrap ((AM.bits .i64 (if IntKind.i64.signed = true then -1 else 9223372036854775807) ^^^ AM.bits .i64 (L:Int)).toNat:Nat) = -(L:Int) - 1:=by
 have e1:AM.bits .i64 (if IntKind.i64.signed = true then -1 else 9223372036854775807) = BitVec.allOnes 64:=by kernel_rfl
 have e2:(BitVec.ofInt 64 (L:Int)).toNat = L:=by
  rw [BitVec.toNat_ofInt]
  show ((L:Int) % 18446744073709551616).toNat = L
  omega
 have e3:(AM.bits .i64 (if IntKind.i64.signed = true then -1 else 9223372036854775807) ^^^ AM.bits .i64 (L:Int)).toNat = 18446744073709551615 - L:=by
  rw [e1]
  show (BitVec.allOnes 64 ^^^ BitVec.ofInt 64 (L:Int)).toNat = _
  rw [BitVec.allOnes_xor,BitVec.toNat_not,e2]
 rw [e3]
 have e4:((18446744073709551615 - L:Nat):Int) = 18446744073709551615 - (L:Int):=by omega
 rw [e4]
 unfold IntKind.wrap
 simp [IntKind.bits,IntKind.signed]
 omega
section
variable {c:Nat} {b:List UInt8} {E:AM.Heap} {oa:Option Nat} {s:Ws}
def vF (c:Nat) (b:List UInt8):AM.Frame:=[(0,.ro c (.pb b) 1),(3,.ptr 1 0 0 0),(4,.int .i64 (b.length:Nat)),(5,.int .i64 1)]
theorem adh {m:Nat} (h:WrV 0 E 1 oa s) (hne:s.o ≠ []) (hl:s.o.length≤1000000):∃ E',WrV 0 E' 1 oa ⟨s.o.length * 8,s.o⟩∧∃ code,((Try.f28.body).bind (aJ [1,1,0,0,0,1,1,1,1,0])) = some code∧Run X (evT X) 28 m code (vF c b) E ⟨.normal,vF c b,E'⟩:=by
 obtain ⟨⟨vo,τ,a1,h0,ho⟩,hn⟩:=id h
 cases oa with
 | none=>exact absurd ho.1 hne
 | some a =>
  refine ⟨AM.upd E 1 (some (jv ⟨s.o.length * 8,s.o⟩ vo τ)),WrV.set hn a1 (fA h0) ho,_,rfl,?_⟩
  obtain ⟨g,τ2,ob,hτ2,rfl,h3,h4⟩:=ho
  have hg:=h4.g
  have w1:IntKind.i64.wrap ((s.o.length:Int) * 8) = ((s.o.length * 8:Nat):Int):=by rw [wrap_i64 (by omega) (by omega)];omega
  simp only [jv,vF] at h0 ⊢
  generalize s.o.length * 8 = k8 at *
  generalize s.o.length = N at *
  generalize b.length = L at *
  (refine ⟨0,?_⟩;simp (maxSteps:=2000000) -implicitDefEqProofs [-getElem?_pos,go_sem,eqV,ah,h0,h3,hg,w1])
theorem aaJ {m:Nat} (h:WrV 0 E 1 oa s) (hne:s.o ≠ []) (hl:s.o.length≤1000000):∃ E',WrV 0 E' 1 oa ⟨s.o.length * 8,s.o⟩∧∃ code,((Try.f28.body).bind (aJ [1,1,0,0,0,1,1,1,1,1,1,1,1,0])) = some code∧Run X (evT X) 28 m code (vF c b) E ⟨.normal,vF c b,E'⟩:=by
 obtain ⟨⟨vo,τ,a1,h0,ho⟩,hn⟩:=id h
 cases oa with
 | none=>exact absurd ho.1 hne
 | some a =>
  refine ⟨AM.upd E 1 (some (jv ⟨s.o.length * 8,s.o⟩ vo τ)),WrV.set hn a1 (fA h0) ho,_,rfl,?_⟩
  obtain ⟨g,τ2,ob,hτ2,rfl,h3,h4⟩:=ho
  have hg:=h4.g
  have w1:IntKind.i64.wrap ((s.o.length:Int) * 8) = ((s.o.length * 8:Nat):Int):=by rw [wrap_i64 (by omega) (by omega)];omega
  simp only [jv,vF] at h0 ⊢
  generalize s.o.length * 8 = k8 at *
  generalize s.o.length = N at *
  generalize b.length = L at *
  (refine ⟨0,?_⟩;simp (maxSteps:=2000000) -implicitDefEqProofs [-getElem?_pos,go_sem,eqV,ah,h0,h3,hg,w1])
theorem aaK {m:Nat} (h:WrV 0 E 1 oa s) (hne:s.o ≠ []) (hl:s.o.length≤1000000) (hb:b.length≤65535):∃ E',WrV 0 E' 1 oa ⟨s.k,s.o ++ b⟩∧∃ code,((Try.f28.body).bind (aJ [1,1,0,0,0,1,1,1,1,1,1,1,0])) = some code∧Run X (evT X) 28 m code (vF c b) E ⟨.normal,vF c b,E'⟩:=by
 obtain ⟨⟨vo,τ,a1,h0,ho⟩,hn⟩:=id h
 cases oa with
 | none=>exact absurd ho.1 hne
 | some a =>
  obtain ⟨g,τ2,ob,hτ2,rfl,h3,h4⟩:=ho
  obtain ⟨ob',w1,w2⟩:=JG (C:=X) (T:=22) (e:=5) (src:=.ro (if c = 0 then 0 else 2) (.pb b) 1) (m:=b) qW OJ wH bytes5 Ez h3 h4 (.inl (by simp [kP,nT,ql])) (by omega)
  have h0':(upd E a (some ob'))[1]? = some (some (jv s (.sl a 0 s.o.length g) τ)):=wB h0 (hn a rfl)
  refine ⟨AM.upd (upd E a (some ob')) 1 (some (jv ⟨s.k,s.o ++ b⟩ (.sl a 0 (s.o.length + b.length) (g + 1)) τ)),WrV.set hn a1 (fA h0') ⟨g + 1,τ2,ob',hτ2,by simp,setAt h3,w1⟩,_,rfl,?_⟩
  have ht:b.take b.length = b:=List.take_length
  have hz:iY (.pb b) 0 b.length = some (.pb b):=by simp [iY]
  simp only [jv,vF] at h0 h0' ⊢
  generalize upd E a (some ob') = E1 at *
  generalize s.o.length + b.length = N2 at *
  generalize s.o.length = N at *
  generalize hL:b.length = L at *
  (refine ⟨0,?_⟩;simp (maxSteps:=2000000) -implicitDefEqProofs [-getElem?_pos,go_sem,eqV,ah,h0,h0',w2,pK,bound,iY,hL,ht,hz])
theorem Ui (s:Ws) (x:Int):s.o.length≤(pY s x).o.length:=by
 unfold pY
 simp only [List.length_set]
 split <;> simp
theorem xg (s:Ws) (x:Int):∀ n,s.o.length≤(dD s x n).o.length
 | 0=>Nat.le_refl _
 | n + 1=>Nat.le_trans (xg s x n) (Ui _ _)
theorem J8 {m:Nat} (hb:b.length≤65535):∃ code,Try.f28.body = some code∧aj (qp fun fr E=>∃ a g ob,ay fr 2 = .sl a 0 (lD b).length g∧E[a]? = some (some ob)∧Rw (.pb (lD b)) g ob) X (evT X) 28 m code [(0,.ro c (.pb b) 1)] []:=by
 refine ⟨_,rfl,?_⟩
 apply aj.seq (fr':=[(0,.ro c (.pb b) 1)]) (H':=[some (⟨.pb [],0,none,0,true,false,0⟩:AM.Obj)])
 ·(refine ⟨0,?_⟩;simp (maxSteps:=2000000) -implicitDefEqProofs [-getElem?_pos,go_sem,eqV,ah,ak,rowOf,adg])
 apply aj.seq (fr':=[(0,.ro c (.pb b) 1),(3,.ptr 1 0 0 0)]) (H':=[some (⟨.pb [],0,none,0,true,false,0⟩:AM.Obj),some (jv ⟨0,[]⟩ (.ro 0 .pn 0) 0)])
 ·simp only [jv]
  (refine ⟨0,?_⟩;simp (maxSteps:=2000000) -implicitDefEqProofs [-getElem?_pos,go_sem,eqV,ah,alF,ak])
 have hV:WrV 0 [some (⟨.pb [],0,none,0,true,false,0⟩:AM.Obj),some (jv ⟨0,[]⟩ (.ro 0 .pn 0) 0)] 1 none ⟨0,[]⟩:=⟨⟨_,0,.inl rfl,rfl,rfl,0,.inl rfl,rfl⟩,fun a h=>by cases h⟩
 generalize [some (⟨.pb [],0,none,0,true,false,0⟩:AM.Obj),some (jv ⟨0,[]⟩ (.ro 0 .pn 0) 0)] = E0 at *
 have hI:(b.length:Int)≤65535:=by omega
 refine aj.blk ?_ (fun o ho=>by rw [ho.1];simp)
 refine aj.kG (I:=fun k fr E=>k = 0∧fr = [(0,.ro c (.pb b) 1),(3,.ptr 1 0 0 0)]∧E = E0) ?_ (k:=0) ⟨rfl,rfl,rfl⟩
 rintro k fr E ⟨rfl,rfl,rfl⟩
 suffices hT:aj (qp fun fr E=>∃ a g ob,ay fr 2 = .sl a 0 (lD b).length g∧E[a]? = some (some ob)∧Rw (.pb (lD b)) g ob) X (evT X) 28 m _ [(0,.ro c (.pb b) 1),(3,.ptr 1 0 0 0)] E from hT.mono fun o ho=>.inr ⟨by rw [ho.1];simp,ho⟩
 refine aj.blk ?_ (fun o ho=>by rw [ho.1];simp)
 apply aj.seq (fr':=[(0,.ro c (.pb b) 1),(3,.ptr 1 0 0 0),(4,.int .i64 (b.length:Nat))]) (H':=E)
 ·have hI2:¬ (65535:Int) < (b.length:Int):=by omega
  have hI3:¬ 65535 < b.length:=by omega
  generalize hL:b.length = L at *
  (refine ⟨0,?_⟩;simp (maxSteps:=2000000) -implicitDefEqProofs [-getElem?_pos,go_sem,eqV,ah,pV,ak,hI,hI2,hI3,hL])
 apply aj.seq (fr':=[(0,.ro c (.pb b) 1),(3,.ptr 1 0 0 0),(4,.int .i64 (b.length:Nat)),(5,.int .i64 0)]) (H':=E)
 ·generalize hL:b.length = L at *
  (refine ⟨0,?_⟩;simp (maxSteps:=2000000) -implicitDefEqProofs [-getElem?_pos,go_sem,eqV,ah,ak])
 apply aj.assoc
 apply aj.seq (fr':=[(0,.ro c (.pb b) 1),(3,.ptr 1 0 0 0),(4,.int .i64 (b.length:Nat)),(5,.int .i64 0),(14,.bool true)]) (H':=E)
 ·generalize hL:b.length = L at *
  (refine ⟨0,?_⟩;simp (maxSteps:=2000000) -implicitDefEqProofs [-getElem?_pos,go_sem,eqV,ah,hL])
 apply aj.seq (fr':=vF c b) (H':=E)
 ·refine Run.cond (d:=true) (by simp [aG,ay]) ?_
  simp only [vF]
  generalize hL:b.length = L at *
  (refine ⟨0,?_⟩;simp (maxSteps:=2000000) -implicitDefEqProofs [-getElem?_pos,go_sem,eqV,ah,ak])
 obtain ⟨E1,oa1,g1,g2,g3⟩:=oD (x:=1) (I:=3) (n:=3) rfl hV rfl (by simp) (by omega)
 apply aj.seq (fr':=vF c b) (H':=E1)
 ·simp only [vF]
  generalize hL:b.length = L at *
  (refine ⟨0,?_⟩;simp (maxSteps:=2000000) -implicitDefEqProofs [-getElem?_pos,go_sem,eqV,ah,g1])
 have ho1:(dD ⟨0,[]⟩ 1 3).o = [1]:=by rw [f13]
 obtain ⟨E2,hV2,hr7⟩:=adh (m:=m) (c:=c) (b:=b) g2 (by rw [ho1];simp) (by rw [ho1];simp)
 apply aj.seq (piece hr7 _ rfl)
 have e8:(dD ⟨0,[]⟩ 1 3).o.length * 8 = 8:=by rw [ho1];rfl
 rw [e8] at hV2
 have hok2:jO ⟨8,(dD ⟨0,[]⟩ 1 3).o⟩:=by unfold jO;rw [ho1];rfl
 obtain ⟨E3,oa3,g4,g5,g6⟩:=oD (x:=(b.length:Nat)) (I:=16) (n:=16) rfl hV2 hok2 (by simp) (by omega)
 have k3:=dU (x:=(b.length:Nat)) hok2 16
 apply aj.seq (fr':=vF c b) (H':=E3)
 ·simp only [vF]
  generalize hL:b.length = L at *
  (refine ⟨0,?_⟩;simp (maxSteps:=2000000) -implicitDefEqProofs [-getElem?_pos,go_sem,eqV,ah,g4])
 obtain ⟨E4,oa4,g7,g8,g9⟩:=oD (x:=-(b.length:Int) - 1) (I:=16) (n:=16) rfl g5 k3.1 (by rw [k3.2];simp) (by omega)
 have k4:=dU (x:=-(b.length:Int) - 1) k3.1 16
 apply aj.seq (fr':=vF c b) (H':=E4)
 ·simp only [vF]
  have wx:IntKind.i64.wrap (-(b.length:Int) - 1) = -(b.length:Int) - 1:=by rw [wrap_i64 (by omega) (by omega)]
  have wx2:IntKind.i64.wrap (-1 - (b.length:Int)) = -(b.length:Int) - 1:=by rw [wrap_i64 (by omega) (by omega)];omega
  have wn:=alG hb
  simp only [go_sem] at wn
  generalize hL:b.length = L at *
  (refine ⟨0,?_⟩;simp (maxSteps:=2000000) -implicitDefEqProofs [-getElem?_pos,go_sem,eqV,ah,g7,wn])
 have adi:1≤(zu b).o.length:=by
  have m1:=xg ⟨8,(dD ⟨0,[]⟩ 1 3).o⟩ (b.length:Nat) 16
  have m2:=xg (dD ⟨8,(dD ⟨0,[]⟩ 1 3).o⟩ (b.length:Nat) 16) (-(b.length:Int) - 1) 16
  have m0:(dD ⟨0,[]⟩ 1 3).o.length = 1:=by rw [ho1];rfl
  unfold zu
  simp only at m1 m2
  omega
 have hk5:(zu b).o.length = 5:=by
  have:=k4.1
  unfold jO at this
  unfold zu
  rw [this,k4.2,k3.2]
  rfl
 have hne:(zu b).o ≠ []:=fun e=>by rw [e] at adi;simp at adi
 have g8':WrV 0 E4 1 oa4 (zu b):=g8
 obtain ⟨E5,hV5,alH⟩:=aaK (m:=m) (c:=c) (b:=b) g8' hne (by omega) hb
 apply aj.seq (piece alH _ rfl)
 obtain ⟨E6,hV6,alI⟩:=aaJ (m:=m) (c:=c) (b:=b) hV5 (by simp [hne]) (by simp;omega)
 apply aj.seq (piece alI _ rfl)
 simp only at hV6
 have Uj:∃ v,∃ code,((Try.f28.body).bind (aJ [1,1,0,0,0,1,1,1,1,1,1,1,1,1,0])) = some code∧Run X (evT X) 28 m code (vF c b) E6 ⟨.normal,[(0,v),(3,.ptr 1 0 0 0),(5,.int .i64 1)],E6⟩:=by
  refine ⟨.ro (if c = 0 then 0 else c) (.pb []) 1,_,rfl,?_⟩
  have hd:b.drop b.length = []:=List.drop_of_length_le (Nat.le_refl _)
  simp only [vF]
  generalize hL:b.length = L at *
  (refine ⟨0,?_⟩;simp (maxSteps:=2000000) -implicitDefEqProofs [-getElem?_pos,go_sem,eqV,ah,pK,bound,iY,hL,hd,ak])
 obtain ⟨v12,Uj⟩:=Uj
 apply aj.seq (piece Uj _ rfl)
 apply aj.seq (fr':=[(0,v12),(3,.ptr 1 0 0 0),(58,.bool true)]) (H':=E6)
 ·(refine ⟨0,?_⟩;simp (maxSteps:=2000000) -implicitDefEqProofs [-getElem?_pos,go_sem,eqV,ah])
 refine aj.yt (by simp [aG,ay]) ?_
 obtain ⟨⟨vo,τ,a1,h0,ho⟩,hn⟩:=id hV6
 cases oa4 with
 | none=>exact absurd ho.1 (by simp [hne])
 | some a =>
  obtain ⟨g,τ2,ob,hτ2,rfl,h3,h4⟩:=ho
  have ht:τ2 = 0:=hτ2.elim id id
  have hst:(zu b).o ++ b = lD b:=rfl
  simp only [hst] at h0 h3 h4
  refine aj.of (o:=⟨.ret,[(2,.sl a 0 (lD b).length g)],E6⟩) ?_ ⟨rfl,a,g,ob,rfl,h3,⟨h4.p,h4.g,h4.row,h4.ids,by rw [h4.tg,ht]⟩⟩
  refine ⟨0,?_⟩
  simp only [jv] at h0
  generalize (lD b).length = N at *
  simp (maxSteps:=2000000) -implicitDefEqProofs [-getElem?_pos,go_sem,eqV,ah,h0,ak]
theorem PX {H:AM.Heap} {a:AV} (ha:dR H a = some (.pb b)) (hb:b.length≤65535):∃ ob,Rw (.pb (lD b)) 0 ob∧evT X 28 [a] H = some (.sl H.length 0 (lD b).length 0,H ++ [some ob]):=by
 obtain ⟨c,x,hx⟩:=gq (C:=X) (f:=28) (i:=0) rfl ha (fG 1)
 obtain ⟨code,hc,⟨out,⟨ho,a2,g,ob,h2,h4,hw⟩,hrun⟩⟩:=J8 (m:=0) (c:=c) hb
 obtain ⟨ob',q1,q2⟩:=Ev1.Vb (C:=X) (H:=H) (bW X) (n:=(lD b).length) (l:=lD b) (rest:=[]) Try.func28 hc hx rfl (by simp [dI]) rfl rfl rfl (by
  rw [acS]
  refine ⟨out,⟨ho,a2,g,ob,?_,h4,hw⟩,hrun⟩
  show aP X out.fr out.H [.tmp 2] = _
  simp [aP,h2])
 exact ⟨ob',q1,dZ q2⟩
end
end Go.Proofs.Ytcllinmgllmpmaa
namespace Go.Proofs.Ytcllinmgllmpmaa
open Go.AM
def GI (x:Pc):Px:=⟨(x.len:Nat),(x.dist:Nat),x.byte⟩
theorem aaL (L:List Pc):(L.map GI).map pxR = L.map pcR:=by
 rw [List.map_map]
 rfl
def vT (b:List UInt8):List Px:=(qx b b.length [] 0).map GI
def fM (b:List UInt8):List UInt8:=if (lD b).length < (oz (vT b)).1.length then lD b else (oz (vT b)).1
theorem F5 (b:List UInt8):∀ (f:Nat) (M:Pls) (p:Nat),(qx b f M p).length≤f
 | 0,_,_=>Nat.le_refl _
 | f + 1,M,p=>by
  unfold qx
  split
  ·have:=F5 b f (JL b M p (max 1 (eU b M p).len)) (p + max 1 (eU b M p).len)
   simp
   omega
  ·simp
theorem aaM {H:AM.Heap} {o g es:Nat} {ob:AM.Obj} {l:List AV} (ho:H[o]? = some (some ob)) (hw:Rw (.pr es l) g ob):dR H (.sl o 0 l.length g) = some (.pr es l):=by
 simp [dR,live,ho,hw.g,hw.ids,hw.p,iY]
section
variable {c:Nat} {b:List UInt8}
theorem J9 {m:Nat} (hb:b.length≤1400):∃ code,Try.f20.body = some code∧aj (qp fun fr E=>∃ a g ob,ay fr 2 = .sl a 0 (fM b).length g∧E[a]? = some (some ob)∧Rw (.pb (fM b)) g ob) X (evT X) 20 m code [(0,.ro c (.pb b) 1)] []:=by
 refine ⟨_,rfl,?_⟩
 apply aj.seq (fr':=[(0,.ro c (.pb b) 1)]) (H':=[some (⟨.pb [],0,none,0,true,false,0⟩:AM.Obj)])
 ·(refine ⟨0,?_⟩;simp (maxSteps:=2000000) -implicitDefEqProofs [-getElem?_pos,go_sem,eqV,ah,ak,rowOf,adg])
 obtain ⟨ob1,w1,e1⟩:=TJ (H:=[some (⟨.pb [],0,none,0,true,false,0⟩:AM.Obj)]) (a:=.ro c (.pb b) 1) (b:=b) rfl hb
 have hlen:=F5 b b.length [] 0
 obtain ⟨ob2,w2,e2⟩:=Uh (H:=[some (⟨.pb [],0,none,0,true,false,0⟩:AM.Obj),some ob1]) (a:=.sl 1 0 (qx b b.length [] 0).length 0) (l:=vT b) (by
  unfold vT
  rw [aaL]
  have:=aaM (H:=[some (⟨.pb [],0,none,0,true,false,0⟩:AM.Obj),some ob1]) (o:=1) rfl w1
  rwa [List.length_map] at this) (by unfold vT;rw [List.length_map];omega)
 obtain ⟨ob3,w3,e3⟩:=PX (H:=[some (⟨.pb [],0,none,0,true,false,0⟩:AM.Obj),some ob1,some ob2]) (a:=.ro c (.pb b) 1) (b:=b) rfl (by omega)
 simp only [List.length_cons,List.length_nil,List.cons_append,List.nil_append] at e1 e2 e3
 unfold fM
 have g2:=w2.g;have g3:=w3.g
 generalize hr0:some (⟨.pb [],0,none,0,true,false,0⟩:AM.Obj) = r0 at *
 apply aj.seq (fr':=[(0,.ro c (.pb b) 1),(3,.sl 2 0 (oz (vT b)).1.length 0)]) (H':=[r0,some ob1,some ob2])
 ·generalize (qx b b.length [] 0).length = N1 at *
  generalize (oz (vT b)).1.length = N2 at *
  generalize (oz (vT b)).2 = er at *
  (refine ⟨0,?_⟩;simp (maxSteps:=2000000) -implicitDefEqProofs [-getElem?_pos,go_sem,eqV,ah,e1,e2,ak])
 apply aj.assoc
 apply aj.seq (fr':=[(3,.sl 2 0 (oz (vT b)).1.length 0),(5,.sl 3 0 (lD b).length 0)]) (H':=[r0,some ob1,some ob2,some ob3])
 ·generalize (oz (vT b)).1.length = N2 at *
  generalize (lD b).length = N3 at *
  (refine ⟨0,?_⟩;simp (maxSteps:=2000000) -implicitDefEqProofs [-getElem?_pos,go_sem,eqV,ah,e3,ak])
 apply aj.assoc
 by_cases hlt:(lD b).length < (oz (vT b)).1.length
 ·rw [if_pos hlt]
  have hI:((lD b).length:Int) < ((oz (vT b)).1.length:Int):=by omega
  refine aj.of (o:=⟨.ret,[(2,.sl 3 0 (lD b).length 0)],[r0,some ob1,some ob2,some ob3]⟩) ?_ ⟨rfl,3,0,ob3,rfl,rfl,w3⟩
  generalize (oz (vT b)).1.length = N2 at *
  generalize (lD b).length = N3 at *
  apply Run.seq (fr':=[(3,.sl 2 0 N2 0),(5,.sl 3 0 N3 0),(18,.bool true)]) (H':=[r0,some ob1,some ob2,some ob3])
  ·(refine ⟨0,?_⟩;simp (maxSteps:=2000000) -implicitDefEqProofs [-getElem?_pos,go_sem,eqV,ah,g2,g3,hI,hlt])
  ·refine ⟨0,?_⟩
   simp (maxSteps:=2000000) -implicitDefEqProofs [-getElem?_pos,go_sem,eqV,ah,ak]
 ·rw [if_neg hlt]
  have hI:¬ ((lD b).length:Int) < ((oz (vT b)).1.length:Int):=by omega
  refine aj.of (o:=⟨.ret,[(2,.sl 2 0 (oz (vT b)).1.length 0)],[r0,some ob1,some ob2,some ob3]⟩) ?_ ⟨rfl,2,0,ob2,rfl,rfl,w2⟩
  generalize (oz (vT b)).1.length = N2 at *
  generalize (lD b).length = N3 at *
  apply Run.seq (fr':=[(3,.sl 2 0 N2 0),(5,.sl 3 0 N3 0),(18,.bool false)]) (H':=[r0,some ob1,some ob2,some ob3])
  ·(refine ⟨0,?_⟩;simp (maxSteps:=2000000) -implicitDefEqProofs [-getElem?_pos,go_sem,eqV,ah,g2,g3,hI,hlt])
  ·refine ⟨0,?_⟩
   simp (maxSteps:=2000000) -implicitDefEqProofs [-getElem?_pos,go_sem,eqV,ah,ak]
theorem OH {H:AM.Heap} {a:AV} (ha:dR H a = some (.pb b)) (hb:b.length≤1400):∃ ob,Rw (.pb (fM b)) 0 ob∧evT X 20 [a] H = some (.sl H.length 0 (fM b).length 0,H ++ [some ob]):=by
 obtain ⟨c,x,hx⟩:=gq (C:=X) (f:=20) (i:=0) rfl ha (fG 1)
 obtain ⟨code,hc,⟨out,⟨ho,a2,g,ob,h2,h4,hw⟩,hrun⟩⟩:=J9 (m:=0) (c:=c) hb
 obtain ⟨ob',q1,q2⟩:=Ev1.Vb (C:=X) (H:=H) (bW X) (n:=(fM b).length) (l:=fM b) (rest:=[]) Try.func20 hc hx rfl (by simp [dI]) rfl rfl rfl (by
  rw [acQ]
  refine ⟨out,⟨ho,a2,g,ob,?_,h4,hw⟩,hrun⟩
  show aP X out.fr out.H [.tmp 2] = _
  simp [aP,h2])
 exact ⟨ob',q1,dZ q2⟩
end
end Go.Proofs.Ytcllinmgllmpmaa
namespace Go.Proofs.Ytcllinmgllmpmaa
open Go.AM
theorem Gd.one:Gd ⟨8,[1]⟩:=⟨rfl,fun i hi=>by
 unfold iR
 have:1≤i / 8:=by have hi':8≤i:=hi;omega
 obtain ⟨q,hq⟩:∃ q,i / 8 = q + 1:=⟨i / 8 - 1,by omega⟩
 simp only [hq]
 simp⟩
theorem Yt {B o:List UInt8} {x:UInt8} {j:Nat} (h:B[j]? = some x):fU B 8 (8 * j) o = .ok (x.toNat:Nat) (8 * (j + 1)) o:=by
 have hj:j < B.length:=fA h
 have:=F6 (b:=B) (k:=8 * j) (o:=o) (x:=((x.toNat:Nat):Int)) 8 (by omega) (fun i hi=>by
  unfold iR
  have e1:(8 * j + i) / 8 = j:=by omega
  have e2:(8 * j + i) % 8 = i:=by omega
  rw [e1,e2,List.getD_eq_getElem?_getD,h]
  push_cast
  rfl)
 have hx:=x.toNat_lt
 have hm:((x.toNat:Nat):Int) % 2 ^ 8 = (x.toNat:Nat):=Int.emod_eq_of_lt (by omega) (by omega)
 rw [this,hm]
 rfl
theorem Rn {B b:List UInt8} {mo:Int} {d:Nat} (hB:∀ i,i < b.length→B[d + i]? = b[i]?) (hm:(b.length:Int)≤mo):∀ n i,i + n = b.length→rF (dG (fU B 8) fun c=>qj mo (UInt8.ofNat c.toNat)) n (8 * (d + i)) (b.take i) = .ok () (8 * (d + b.length)) b
 | 0,i,h=>by
  have:i = b.length:=by omega
  subst this
  rw [List.take_length]
  rfl
 | n + 1,i,h=>by
  have hi:i < b.length:=by omega
  have hx:b[i]? = some b[i]:=List.getElem?_eq_getElem hi
  have h1:=Yt (o:=b.take i) (x:=b[i]) ((hB i hi).trans hx)
  have h2:qj mo (UInt8.ofNat (((b[i].toNat:Nat):Int)).toNat) (8 * (d + i + 1)) (b.take i) = .ok () (8 * (d + i + 1)) (b.take (i + 1)):=by
   unfold qj
   rw [if_pos (by rw [List.length_take];omega),List.take_add_one,hx]
   simp
  unfold rF
  rw [dS (by rw [dS h1];exact h2)]
  exact Rn hB hm n (i + 1) (by omega)
theorem F7 {b:List UInt8}:Gd (zu b)∧(zu b).k = 40∧(zu b).o.length = 5:=by
 unfold zu
 rw [f13]
 obtain ⟨a1,_,_⟩:=iC (x:=(b.length:Nat)) Gd.one 16
 obtain ⟨a2,_,_⟩:=iC (x:=-(b.length:Int) - 1) a1 16
 have k1:=(dU (x:=(b.length:Nat)) Gd.one.ok 16).2
 have k2:=(dU (x:=-(b.length:Int) - 1) a1.ok 16).2
 have hk:(dD (dD ⟨8,[1]⟩ (b.length:Nat) 16) (-(b.length:Int) - 1) 16).k = 40:=by rw [k2,k1]
 have:=a2.ok
 unfold jO at this
 exact ⟨a2,hk,by rw [this,hk]⟩
theorem AQ (b:List UInt8):(lD b).length = b.length + 5:=by
 unfold lD
 rw [List.length_append,F7.2.2]
 omega
theorem Yu {F:Nat} {b r:List UInt8} {mo:Int} (hb:b.length≤65535) (hm:(b.length:Int)≤mo) (hF:0 < F):∃ L,qw (lD b ++ r) mo F F 0 [] = .ok L (8 * (lD b).length) b:=by
 obtain ⟨F,rfl⟩:∃ g,F = g + 1:=⟨F - 1,by omega⟩
 obtain ⟨w1,w2,w3⟩:=F7 (b:=b)
 have hlen:(lD b ++ r).length = 5 + b.length + r.length:=by rw [List.length_append,AQ];omega
 have hag:Agr (lD b ++ r) (zu b):=⟨by rw [w2];omega,fun i hi=>by
  unfold iR lD
  rw [List.append_assoc,List.getD_eq_getElem?_getD,List.getElem?_append_left (by rw [w2] at hi;omega),← List.getD_eq_getElem?_getD]⟩
 have hB:∀ i,i < b.length→(lD b ++ r)[5 + i]? = b[i]?:=by
  intro i hi
  unfold lD
  rw [List.append_assoc,List.getElem?_append_right (by omega),w3,show 5 + i - 5 = i by omega,List.getElem?_append_left hi]
 have hs:zu b = dD (dD ⟨8,[1]⟩ (b.length:Nat) 16) (-(b.length:Int) - 1) 16:=by unfold zu;rw [f13]
 rw [AQ]
 generalize lD b ++ r = B at *
 rw [hs] at hag w2
 obtain ⟨a1,b1,_⟩:=iC (x:=(b.length:Nat)) Gd.one 16
 obtain ⟨a2,b2,_⟩:=iC (x:=-(b.length:Int) - 1) a1 16
 have x1:=Agr.ext b2 hag
 have x0:=Agr.ext b1 x1
 have bits:∀ i,i < 8→iR B i = iR [1] i:=x0.at'
 have r1:fU B 1 0 [] = .ok 1 1 []:=by
  have:=F6 (b:=B) (k:=0) (o:=[]) (x:=1) 1 (by omega) (fun i hi=>by
   have:i = 0:=by omega
   subst this
   rw [bits 0 (by omega)];rfl)
  exact this
 have r2:fU B 2 1 [] = .ok 0 3 []:=by
  have:=F6 (b:=B) (k:=1) (o:=[]) (x:=0) 2 (by omega) (fun i hi=>by
   have:i = 0∨i = 1:=by omega
   rcases this with rfl | rfl
   ·rw [bits 1 (by omega)];rfl
   ·rw [bits 2 (by omega)];rfl)
  exact this
 have r3:=uD (o:=[]) Gd.one x1
 have r4:=uD (o:=[]) a1 hag
 rw [w2] at r4
 have e3:((b.length:Nat):Int) % 2 ^ 16 = (b.length:Nat):=Int.emod_eq_of_lt (by omega) (by omega)
 have e4:(-(b.length:Int) - 1) % 2 ^ 16 = 65535 - (b.length:Nat):=by
  show (-(b.length:Int) - 1) % 65536 = _
  omega
 rw [e3] at r3
 rw [e4] at r4
 have r5:=Rn (B:=B) (d:=5) hB hm b.length 0 (by omega)
 have alJ:BF B mo 3 [] = .ok () (8 * (5 + b.length)) b:=by
  unfold BF
  rw [dS (show Xm 3 [] = .ok () 8 [] from rfl),dS r3,dS r4,if_pos (by omega)]
  exact r5
 have hbl:FX B mo (F + 1) 0 [] = .ok ⟨0,true,0,b.length⟩ (8 * (5 + b.length)) b:=by
  unfold FX
  rw [dS r1,dS r2]
  have hk:CG B mo (F + 1) 0 = BF B mo:=by unfold CG;rw [if_pos rfl]
  rw [hk,dS alJ]
  rfl
 rw [show 8 * (b.length + 5) = 8 * (5 + b.length) by omega]
 refine ⟨[⟨0,true,0,b.length⟩],?_⟩
 unfold qw
 rw [dS hbl,if_pos rfl]
 rfl
theorem NP {b:List UInt8} {i k:Nat}:∀ (f n j:Nat),n≤j→j < eP b i k f n→b[i + j]? = b[k + j]?
 | 0,n,j,h1,h2=>by unfold eP at h2;omega
 | f + 1,n,j,h1,h2=>by
  unfold eP at h2
  split at h2
  ·rename_i hc
   by_cases hj:j = n
   ·subst hj;exact hc.2.2
   ·exact NP f (n + 1) j (by omega) h2
  ·omega
theorem IB (b:List UInt8) (p:Nat):∀ (L:List Nat) (s:Nat × Nat),(∀ x ∈ L,x < p)→uw b p L s = s∨∃ x ∈ L,p - x≤32768∧uw b p L s = (eP b x p 258 0,p - x)
 | [],s,_=>.inl rfl
 | y :: L,s,h=>by
  unfold uw
  split
  ·rename_i hc
   rcases IB b p L (if s.1 < eP b y p 258 0 then (eP b y p 258 0,p - y) else s) (fun x hx=>h x (List.mem_cons_of_mem _ hx)) with e | ⟨x,hx,h1,h2⟩
   ·rw [e]
    split
    ·exact .inr ⟨y,List.mem_cons_self ..,hc.1,rfl⟩
    ·exact .inl rfl
   ·exact .inr ⟨x,List.mem_cons_of_mem _ hx,h1,h2⟩
  ·exact .inl rfl
theorem Yv {b:List UInt8} {p d:Nat} (hd:1≤d) (hdp:d≤p):∀ n,p + n≤b.length→(∀ j,j < n→b[p - d + j]? = b[p + j]?)→kR d n (b.take p) = b.take (p + n):=by
 suffices H:∀ n q,p≤q→q + n≤b.length→(∀ j,p≤j→j < q + n→b[j - d]? = b[j]?)→kR d n (b.take q) = b.take (q + n) by
  intro n h1 h2
  exact H n p (Nat.le_refl _) h1 fun j hj hj2=>by
   have:=h2 (j - p) (by omega)
   rw [show p - d + (j - p) = j - d by omega,show p + (j - p) = j by omega] at this
   exact this
 intro n
 induction n with
 | zero=>intro q _ _ _;rfl
 | succ n ih =>
  intro q hq h1 h2
  unfold kR
  have hx:b[q]? = some b[q]:=List.getElem?_eq_getElem (by omega)
  have e:(b.take q).getD ((b.take q).length - d) 0 = b[q]:=by
   rw [List.length_take,Nat.min_eq_left (by omega),List.getD_eq_getElem?_getD,List.getElem?_take,if_pos (by omega),h2 q hq (by omega),hx]
   rfl
  rw [e]
  have e2:b.take q ++ [b[q]] = b.take (q + 1):=by rw [List.take_add_one,hx];rfl
  rw [e2,ih (q + 1) (by omega) (by omega) fun j hj hj2=>h2 j hj (by omega),show q + 1 + n = q + (n + 1) by omega]
theorem PY {b:List UInt8} {M:Pls} {p:Nat} (hM:Cc M p) (hp:p < b.length):(3≤(eU b M p).len∧(eU b M p).len≤258∧1≤(eU b M p).dist∧(eU b M p).dist≤32768∧(eU b M p).dist≤p∧(eU b M p).byte = 0∧kR (eU b M p).dist (eU b M p).len (b.take p) = b.take (p + (eU b M p).len))∨(eU b M p = ⟨0,0,b.getD p 0⟩):=by
 have hfit:=xQ (M:=M) hp
 unfold eU at hfit ⊢
 by_cases h3:3≤(lS b M p).1
 ·rw [if_pos h3] at hfit ⊢
  left
  simp only at hfit ⊢
  have PI:=(Na (M:=M) (Nat.le_of_lt hp)).2
  unfold lS at h3 hfit PI ⊢
  split at h3
  ·rename_i hp3
   rw [if_pos hp3] at hfit PI ⊢
   have hL:∀ x ∈ (lkM M (pI b p)).reverse,x < p:=by
    intro x hx
    rw [List.mem_reverse] at hx
    unfold lkM at hx
    split at hx
    ·rename_i j hj
     obtain ⟨_,l,hl⟩:=Au hj
     rw [Nat.sub_zero] at hl
     rw [List.getD_eq_getElem?_getD,hl] at hx
     exact (hM.2 _ (List.mem_of_getElem? hl)).2.2 x hx
    ·cases hx
   rcases IB b p _ (0,0) hL with e | ⟨x,hx,h1,e⟩
   ·rw [e] at h3;simp at h3
   ·have hxp:=hL x hx
    rw [e] at h3 hfit PI ⊢
    simp only at h3 hfit PI ⊢
    refine ⟨h3,PI,by omega,h1,by omega,trivial,?_⟩
    refine Yv (by omega) (by omega) _ (by omega) fun j hj=>?_
    rw [show p - (p - x) + j = x + j by omega]
    exact NP 258 0 j (by omega) hj
  ·simp at h3
 ·rw [if_neg h3]
  exact .inr rfl
theorem Yw (y:UInt8) (L:List Px) (o:List UInt8):jY (GI ⟨0,0,y⟩ :: L) o = jY L (o ++ [y]):=by
 conv=>lhs;unfold jY
 have hm:nC (GI ⟨0,0,y⟩) = true:=by unfold nC GI;rfl
 have h0:(GI ⟨0,0,y⟩).len = 0:=rfl
 rw [if_neg (by rw [hm];simp),if_pos h0]
 rfl
theorem NQ {b:List UInt8}:∀ (f:Nat) (M:Pls) (p:Nat),Cc M p→p≤b.length→b.length≤p + f→jY ((qx b f M p).map GI) (b.take p) = (b,0)
 | 0,M,p,hM,hp,hf=>by
  have:p = b.length:=by omega
  subst this
  unfold qx
  rw [List.take_length]
  rfl
 | f + 1,M,p,hM,hp,hf=>by
  unfold qx
  by_cases hlt:p < b.length
  ·rw [if_pos hlt,List.map_cons]
   have hmx:1≤max 1 (eU b M p).len:=Nat.le_max_left ..
   have ih:=NQ f (JL b M p (max 1 (eU b M p).len)) (p + max 1 (eU b M p).len) (hM.up _) (xQ hlt) (by omega)
   generalize qx b f (JL b M p (max 1 (eU b M p).len)) (p + max 1 (eU b M p).len) = R at *
   rcases PY hM hlt with ⟨h1,h2,h3,h4,h5,h6,h7⟩ | h
   ·have hmax:max 1 (eU b M p).len = (eU b M p).len:=by omega
    rw [hmax] at ih
    unfold jY
    have hmay:nC (GI (eU b M p)) = true:=by
     unfold nC GI
     simp only
     rw [if_neg (by omega),h6]
     simp
     omega
    rw [if_neg (by simp [hmay])]
    unfold GI
    simp only
    rw [if_neg (by omega),if_neg (by rw [List.length_take];omega)]
    simp only [Int.toNat_natCast]
    rw [h7]
    exact ih
   ·rw [h] at ih ⊢
    have hx:b[p]? = some b[p]:=List.getElem?_eq_getElem hlt
    have hg:b.getD p 0 = b[p]:=by rw [List.getD_eq_getElem?_getD,hx];rfl
    rw [Yw,hg]
    have e2:b.take p ++ [b[p]] = b.take (p + 1):=by rw [List.take_add_one,hx];rfl
    rw [e2]
    exact ih
  ·rw [if_neg hlt]
   have:p = b.length:=by omega
   subst this
   rw [List.take_length]
   rfl
theorem Uk (b:List UInt8):jY (vT b) [] = (b,0):=NQ b.length [] 0 ⟨Nat.le_refl _,fun y hy=>by cases hy⟩ (Nat.zero_le _) (by omega)
theorem Agr.app {s:Ws} (h:jO s) (r:List UInt8):Agr (s.o ++ r) s:=by
 unfold jO at h
 refine ⟨by rw [List.length_append];omega,fun i hi=>?_⟩
 unfold iR
 rw [List.getD_eq_getElem?_getD,List.getElem?_append_left (by omega),← List.getD_eq_getElem?_getD]
theorem Yx (l:List Px):Gd (GH l):=by
 unfold GH
 obtain ⟨a1,_,_⟩:=iC (x:=1) Gd.nil 1
 obtain ⟨a2,_,_⟩:=iC (x:=1) a1 2
 exact (sF (Ko l a2).1).1
theorem WG {F:Nat} {out r:List UInt8} {mo:Int} {l:List Px} (he:jY l [] = (out,0)) (hm:(out.length:Int)≤mo) (hF:l.length < F):∃ L k,qw ((oz l).1 ++ r) mo F F 0 [] = .ok L k out∧(k + 7) / 8 = (oz l).1.length:=by
 have hf:(oz l).1 = (GH l).o:=by unfold oz;rw [he];rfl
 have hg:=(Yx l).ok
 obtain ⟨L,h⟩:=Yy (F:=F) he (Agr.app hg r) hm hF
 rw [hf]
 unfold jO at hg
 exact ⟨L,_,h,hg.symm⟩
theorem IC {F:Nat} {b r:List UInt8} {mo:Int} (hb:b.length≤65535) (hm:(b.length:Int)≤mo) (hF:b.length < F):∃ L k,qw (fM b ++ r) mo F F 0 [] = .ok L k b∧(k + 7) / 8 = (fM b).length:=by
 unfold fM
 split
 ·obtain ⟨L,h⟩:=Yu (F:=F) (r:=r) hb hm (by omega)
  exact ⟨L,_,h,by omega⟩
 ·refine WG (Uk b) hm ?_
  have:=F5 b b.length [] 0
  unfold vT
  rw [List.length_map]
  omega
theorem Hl {F:Nat} {b r:List UInt8} {mo:Int} (hb:b.length≤65535) (hm:(b.length:Int)≤mo) (hF:b.length < F):tV F (fM b ++ r) mo = (b,(((fM b).length:Nat):Int),0):=by
 obtain ⟨L,k,h,hk⟩:=IC (F:=F) (r:=r) hb hm hF
 rw [Yz ⟨L,h⟩ hm,hk]
theorem LU (b:List UInt8):(fM b).length≤b.length + 5:=by
 unfold fM
 split
 ·rw [AQ];exact Nat.le_refl _
 ·rename_i h
  rw [AQ] at h
  omega
end Go.Proofs.Ytcllinmgllmpmaa
namespace Go.Proofs.Ytcllinmgllmpmaa
open Go.AM
def lo1 (lo:Int) (b:UInt8):Int:=(IntKind.u32.wrap (lo + IntKind.u32.wrap (b.toNat:Int))).tmod 65521
def hi1 (lo hi:Int) (b:UInt8):Int:=(IntKind.u32.wrap (hi + lo1 lo b)).tmod 65521
def lM:Int→Int→List UInt8→Int × Int
 | lo,hi,[]=>(lo,hi)
 | lo,hi,b :: r=>lM (lo1 lo b) (hi1 lo hi b) r
def LQ (lo hi:Int):Int:=IntKind.u32.wrap ((AM.bits .u32 (IntKind.u32.wrap (hi * 2 ^ (min 16 32))) ||| AM.bits .u32 lo).toNat)
def adl (l:List UInt8):Nat:=(LQ (lM 1 0 l).1 (lM 1 0 l).2).toNat
theorem II (n:Int):0≤IntKind.u32.wrap n∧IntKind.u32.wrap n < 4294967296:=by
 have h:IntKind.u32.wrap n = n % 4294967296:=by
  simp [IntKind.wrap,IntKind.signed,IntKind.bits]
 rw [h]
 omega
theorem U9 (l:List UInt8):LQ (lM 1 0 l).1 (lM 1 0 l).2 = (adl l:Nat):=by
 unfold adl LQ
 have:=II (((AM.bits .u32 (IntKind.u32.wrap ((lM 1 0 l).2 * 2 ^ (min 16 32))) ||| AM.bits .u32 (lM 1 0 l).1).toNat:Nat):Int)
 omega
theorem OI (l:List UInt8):adl l < 4294967296:=by
 have h1:=U9 l
 unfold LQ at h1
 have:=II (((AM.bits .u32 (IntKind.u32.wrap ((lM 1 0 l).2 * 2 ^ (min 16 32))) ||| AM.bits .u32 (lM 1 0 l).1).toNat:Nat):Int)
 omega
def be4 (s:Nat):List UInt8:=[UInt8.ofNat (s / 16777216),UInt8.ofNat (s / 65536),UInt8.ofNat (s / 256),UInt8.ofNat s]
def un4 (r:List UInt8):Nat:=(r.getD 0 0).toNat * 16777216 + (r.getD 1 0).toNat * 65536 + (r.getD 2 0).toNat * 256 + (r.getD 3 0).toNat
theorem YA {s:Nat} (h:s < 4294967296) (r:List UInt8):un4 (be4 s ++ r) = s:=by
 unfold un4 be4
 simp only [List.cons_append,List.getD_cons_zero,List.getD_cons_succ,UInt8.toNat_ofNat']
 omega
def jy (b:List UInt8):List UInt8:=[120,1] ++ fM b ++ be4 (adl b)
def mP (b:List UInt8):Int:=if b.length < 2 then 4 else
 if (b.getD 0 0).toNat % 16 ≠ 8∨7 < (b.getD 0 0).toNat / 16∨(b.getD 1 0).toNat / 32 % 2 ≠ 0∨((b.getD 0 0).toNat * 256 + (b.getD 1 0).toNat) % 31 ≠ 0 then 5 else 0
def tX (F:Nat) (b:List UInt8) (mo:Int):List UInt8 × Int :=
 if mo < 0 then ([],2) else if mP b ≠ 0 then ([],mP b) else if (tV F (b.drop 2) mo).2.2 ≠ 0 then ([],(tV F (b.drop 2) mo).2.2) else
  if (b.drop (2 + (tV F (b.drop 2) mo).2.1.toNat)).length < 4 then ([],4) else if un4 (b.drop (2 + (tV F (b.drop 2) mo).2.1.toNat)) ≠ adl (tV F (b.drop 2) mo).1 then ([],8) else
  if 4 < (b.drop (2 + (tV F (b.drop 2) mo).2.1.toNat)).length then ([],5) else ((tV F (b.drop 2) mo).1,0)
theorem Hr (b:List UInt8):(jy b).length = 6 + (fM b).length:=by
 unfold jy be4
 simp
 omega
theorem IJ (l:List UInt8):mP ([120,1] ++ l) = 0:=by
 unfold mP
 rw [if_neg (by simp)]
 simp
theorem Ro {F:Nat} {b r:List UInt8} {mo:Int} (hb:b.length≤65535) (hm:(b.length:Int)≤mo) (hF:b.length < F):tX F ([120,1] ++ fM b ++ r) mo =
  if r.length < 4 then ([],4) else if un4 r ≠ adl b then ([],8) else if 4 < r.length then ([],5) else (b,0):=by
 have h:=Hl (F:=F) (r:=r) hb hm hF
 have hd:([120,1] ++ fM b ++ r).drop 2 = fM b ++ r:=by simp
 have hd2:([120,1] ++ fM b ++ r).drop (2 + (fM b).length) = r:=by
  rw [← List.drop_drop,hd,List.drop_left]
 unfold tX
 rw [if_neg (by omega),List.append_assoc,IJ,if_neg (by simp),← List.append_assoc,hd,h]
 simp only
 rw [if_neg (by simp),Int.toNat_natCast,hd2]
theorem XA {F:Nat} {b:List UInt8} {i:Nat} (hb:b.length≤65535) (hF:b.length < F) (hi:i < (jy b).length):tX F ((jy b).take i) (b.length:Nat) = ([],4):=by
 have hlen:=Hr b
 have hm:¬ ((b.length:Nat):Int) < 0:=by omega
 by_cases h2:i < 2
 ·have hh:mP ((jy b).take i) = 4:=by
   unfold mP
   rw [if_pos (by rw [List.length_take];omega)]
  unfold tX
  rw [if_neg hm,hh]
  simp
 ·by_cases h3:i < 2 + (fM b).length
  ·obtain ⟨L,k,h,hk⟩:=IC (F:=F) (r:=be4 (adl b)) (mo:=(b.length:Nat)) hb (Int.le_refl _) hF
   have hd:((jy b).take i).drop 2 = (fM b).take (i - 2):=by
    unfold jy
    rw [List.append_assoc,List.drop_take]
    show (fM b ++ be4 (adl b)).take (i - 2) = _
    rw [List.take_append_of_le_length (by omega)]
   have hc:=(Jr F F).cut _ ((fM b).take (i - 2)) _ _ _ _ _ _ h (by omega) (fun j hj=>by
    rw [List.length_take] at hj
    unfold iR
    have:j / 8 < i - 2:=by omega
    rw [List.getD_eq_getElem?_getD,List.getD_eq_getElem?_getD,List.getElem?_take,if_pos this,List.getElem?_append_left (by omega)]) (by omega) (by rw [List.length_take];omega) (by simp)
   have hh:mP ((jy b).take i) = 0:=by
    obtain ⟨q,rfl⟩:∃ q,i = 2 + q:=⟨i - 2,by omega⟩
    unfold jy
    rw [List.append_assoc,List.take_append,List.take_of_length_le (by simp)]
    exact IJ _
   have hif:tV F ((fM b).take (i - 2)) (b.length:Nat) = ([],0,4):=by
    unfold tV
    rw [if_neg hm,hc]
   unfold tX
   rw [if_neg hm,hh,if_neg (by simp),hd,hif]
   simp
  ·have hd:(jy b).take i = [120,1] ++ fM b ++ (be4 (adl b)).take (i - 2 - (fM b).length):=by
    unfold jy
    rw [List.take_append,List.take_of_length_le (by simp;omega)]
    congr 2
    simp
    omega
   rw [hd,Ro hb (Int.le_refl _) hF,if_pos (by rw [List.length_take];omega)]
theorem Vg {F:Nat} {b r:List UInt8} (hb:b.length≤65535) (hF:b.length < F) (hr:r ≠ []):tX F (jy b ++ r) (b.length:Nat) = ([],5):=by
 have hp:0 < r.length:=List.length_pos_iff.2 hr
 unfold jy
 rw [List.append_assoc,Ro hb (Int.le_refl _) hF,if_neg (by simp [be4]),if_neg (by simp [YA (OI b) r]),if_pos (by simp [be4];omega)]
end Go.Proofs.Ytcllinmgllmpmaa
namespace Go.Proofs.Ytcllinmgllmpmaa
open Go.AM
structure Is where
 k:Nat
 o:List UInt8
 e:Int
def bK (c:Nat) (b:List UInt8) (mo:Int) (s:Is) (vo:AV) (τ1 τ:Nat):AM.Obj:=⟨.pc [.ro c (.pb b) τ1,.int .i64 (s.k:Nat),vo,.int .i64 mo,.int .i64 s.e],0,some 5,1,false,true,τ⟩
def OuV (t:Nat) (H:AM.Heap) (oa:Option Nat) (vo:AV) (l:List UInt8):Prop:=match oa with
 | none=>l = []∧∃ τ,(τ = 0∨τ = t)∧vo = .ro 0 .pn τ
 | some a=>∃ g τ ob,(τ = 0∨τ = t)∧vo = .sl a 0 l.length g∧H[a]? = some (some ob)∧RwT (.pb l) g τ ob
structure IrV (c:Nat) (b:List UInt8) (mo:Int) (t:Nat) (H:AM.Heap) (o:Nat) (oa:Option Nat) (s:Is):Prop where
 bx:∃ vo τ1 τ,(τ1 = 0∨τ1 = t)∧(τ = 0∨τ = t)∧H[o]? = some (some (bK c b mo s vo τ1 τ))∧OuV t H oa vo s.o
 ne:∀ a,oa = some a→a ≠ o
def irS (c:Nat) (b:List UInt8) (mo:Int) (s:Is):Bool→List AM.Obj
 | false=>[bK c b mo s (.ro 0 .pn 0) 0 0]
 | true=>[bK c b mo s (.sl 1 0 s.o.length 0) 0 0,⟨.pb s.o,0,none,0,true,false,0⟩]
section
variable {c:Nat} {b:List UInt8} {mo:Int} {t:Nat} {H:AM.Heap} {o:Nat} {oa:Option Nat} {s:Is}
theorem BL (c:Nat) (b:List UInt8) (mo:Int) (s:Is) (r:Bool):OkS (irS c b mo s r):=by
 intro k ob0 hk x hx
 cases r
 ·cases k with
  | zero =>
   obtain rfl:=Option.some.inj hk
   simp [bK,ids,aB] at hx
  | succ k=>simp [irS] at hk
 ·match k,hk with
  | 0,hk =>
   obtain rfl:=Option.some.inj hk
   simp [bK,ids,aB] at hx
   subst hx
   simp [irS]
  | 1,hk =>
   obtain rfl:=Option.some.inj hk
   simp [ids] at hx
  | k + 2,hk=>simp [irS] at hk
theorem fV (c:Nat) (b:List UInt8) (mo:Int) (s:Is) (r:Bool):(irS c b mo s r).length = if r then 2 else 1:=by cases r <;> rfl
theorem BM (c:Nat) (b:List UInt8) (mo:Int) (s:Is) (r:Bool):reach ((irS c b mo s r).map some) aC [0] [] = List.range (irS c b mo s r).length:=by
 cases r
 ·exact qC rfl (by simp [bK,ids,aB])
 ·show reach _ (99996 + 1 + 1 + 1 + 1) [0] [] = [0,1]
  simp [irS,bK,reach,ids,aB]
theorem IrV.img (h:IrV c b mo t H o oa s):∃ π,Img t H π (irS c b mo s oa.isSome)∧π.map Prod.fst = o :: oa.toList∧π[0]? = some (o,0):=by
 obtain ⟨⟨vo,τ1,τ,hτ1,hτ,h0,ho⟩,hne⟩:=h
 cases oa with
 | none =>
  obtain ⟨hl,τ2,hτ2,rfl⟩:=ho
  refine ⟨[(o,0)],⟨rfl,?_,?_⟩,rfl,rfl⟩
  ·intro j k oj gj ok gk h1 h2 _
   have:=fA h1;have:=fA h2
   simp at *;omega
  ·intro k ob0 hk
   cases k with
   | succ k=>simp [irS] at hk
   | zero =>
    obtain rfl:=Option.some.inj hk
    refine ⟨o,0,_,rfl,h0,⟨?_,rfl,rfl,rfl,fun _=>⟨rfl,rfl,rfl⟩,hτ,?_⟩⟩
    ·simp [bK,ren,bC,tz]
    ·intro k hk
     simp [bK,tags,aU] at hk
     rcases hk with rfl | rfl
     ·exact hτ1
     ·exact hτ2
 | some a =>
  obtain ⟨g,τ2,ob,hτ2,rfl,ha,hw⟩:=ho
  have hao:=hne a rfl
  refine ⟨[(o,0),(a,g)],⟨rfl,?_,?_⟩,rfl,rfl⟩
  ·intro j k oj gj ok gk h1 h2 e
   match j,k,h1,h2 with
   | 0,0,_,_=>rfl
   | 1,1,_,_=>rfl
   | 0,1,h1,h2=>simp at h1 h2;omega
   | 1,0,h1,h2=>simp at h1 h2;omega
   | j + 2,_,h1,_=>simp at h1
   | 0,k + 2,_,h2=>simp at h2
   | 1,k + 2,_,h2=>simp at h2
  ·intro k ob0 hk
   match k,hk with
   | 0,hk =>
    obtain rfl:=Option.some.inj hk
    refine ⟨o,0,_,rfl,h0,⟨?_,rfl,rfl,rfl,fun _=>⟨rfl,rfl,rfl⟩,hτ,?_⟩⟩
    ·simp [bK,ren,bC,tz,eY,idN]
    ·intro k hk
     simp [bK,tags,aU] at hk
     rw [hk];exact hτ1
   | 1,hk =>
    obtain rfl:=Option.some.inj hk
    refine ⟨a,g,ob,rfl,ha,⟨by rw [hw.p];rfl,hw.g,hw.row,hw.ids,(fun h=>by cases h),by rw [hw.tg];exact hτ2,?_⟩⟩
    intro k hk
    rw [hw.p] at hk
    simp [tags] at hk
   | k + 2,hk=>simp [irS] at hk
theorem IrV.nU {π:List (Nat × Nat)} {r:Bool} (h:Img t H π (irS c b mo s r)) (h0:π[0]? = some (o,0)) (hr:r = false→s.o = []):∃ oa,IrV c b mo t H o oa s∧π.map Prod.fst = o :: oa.toList∧oa.isSome = r∧(∀ a,oa = some a→∃ g,π[1]? = some (a,g)):=by
 obtain ⟨o',g',ob,q1,q2,q3⟩:=h.ob 0 _ (by cases r <;> rfl:(irS c b mo s r)[0]? = some (bK c b mo s (if r then .sl 1 0 s.o.length 0 else .ro 0 .pn 0) 0 0))
 rw [h0] at q1
 simp only [Option.some.injEq,Prod.mk.injEq] at q1
 obtain ⟨rfl,rfl⟩:=q1
 obtain ⟨b1,b2,_⟩:=q3.bx rfl
 obtain ⟨p,g,cap,z,row,idb,tg⟩:=ob
 have r2:=q3.gen;have r3:=q3.row;have r4:=q3.ids;have r5:=q3.tg;have r6:=q3.tp;have r1:=q3.p
 simp only [bK] at r1 r2 r3 r4 r5 r6 b1 b2
 subst r2 r3 r4 b1 b2
 simp only [ren,bC] at r1
 obtain ⟨l1,rfl,k1⟩:=yL r1
 obtain ⟨x1,l2,rfl,e1,k2⟩:=gu k1
 obtain ⟨x2,l3,rfl,e2,k3⟩:=gu k2
 obtain ⟨x3,l4,rfl,e3,k4⟩:=gu k3
 obtain ⟨x4,l5,rfl,e4,k5⟩:=gu k4
 obtain ⟨x5,l6,rfl,e5,k6⟩:=gu k5
 obtain rfl:=qo k6
 obtain ⟨τ1,rfl⟩:=yM e1
 obtain rfl:=rU e2
 obtain rfl:=rU e4
 obtain rfl:=rU e5
 have hτ1:τ1 = 0∨τ1 = t:=r6 τ1 (by simp [tags,aU])
 cases r with
 | false =>
  simp only [Bool.false_eq_true,if_false,ren] at e3
  obtain ⟨τ2,rfl⟩:=yM e3
  have hτ2:τ2 = 0∨τ2 = t:=r6 τ2 (by simp [tags,aU])
  have hl:=h.len
  refine ⟨none,⟨⟨_,τ1,tg,hτ1,r5,q2,hr rfl,τ2,hτ2,rfl⟩,fun a h=>by cases h⟩,?_,rfl,fun a h=>by cases h⟩
  match π,hl,h0 with
  | [x],_,h0=>simp at h0;subst h0;rfl
 | true =>
  obtain ⟨a,g,ob,p1,p2,p3⟩:=h.ob 1 _ rfl
  simp only [if_true,ren,eY,p1] at e3
  obtain rfl:=Et e3
  have hl:=h.len
  have hne:a ≠ o:=fun e=>by have:=h.nd 1 0 a g o 0 p1 h0 e;omega
  have ep:=p3.p
  simp only [ren] at ep
  refine ⟨some a,⟨⟨_,τ1,tg,hτ1,r5,q2,g,ob.tg,ob,p3.tg,rfl,p2,JH ep,p3.gen,p3.row,p3.ids,rfl⟩,fun a' h=>by cases h;exact hne⟩,?_,rfl,fun a' h=>by cases h;exact ⟨g,p1⟩⟩
  match π,hl,h0,p1 with
  | [x,y],_,h0,p1=>simp at h0 p1;subst h0 p1;rfl
theorem Qg {f n:Nat} {fn:Func} {code:Code} {xs ys:List AV} {Q:Is→List AV→Bool→Prop} (hF:X.P.funcs[f]? = some fn) (hb:fn.body = some code) (hrw:X.rw f 0 = false) (h:IrV c b mo t H o oa s)
  (hA:∀ π K,π.map Prod.fst = o :: oa.toList→fO X f H π K 1 xs ys) (hi:aB ys = []) (hn:xs.length + 2 = n) (hng:n < dI)
  (run:∀ m E,IrV c b mo n E 0 (oa.map fun _=>1) s→aj (kF fun fr E'=>∃ s' oa' l,aP X fr E' fn.results.toList = some l∧aB l = []∧aU l = []∧fB l = true∧IrV c b mo n E' 0 oa' s'∧(oa ≠ none→oa' = some 1)∧Q s' l oa'.isSome)
   X (evT X) f m code (numbered 0 (coerce X (.ptr 0 0 0 0 :: ys) (au X f))) E) :
  ∃ H' oa' s' l,evT X f (.ptr o 0 0 0 :: xs) H = some (aO l,H')∧IrV c b mo t H' o oa' s'∧Q s' l oa'.isSome∧H.length≤H'.length∧(∀ a,oa = some a→oa' = some a)∧(∀ a,oa = none→oa' = some a→H.length≤a) ∧
   (∀ j,j < H.length→j ≠ o→(∀ a,oa = some a→j ≠ a)→H'[j]? = H[j]?):=by
 obtain ⟨π,hI,hπ,hπ0⟩:=h.img
 have hK:0 < (irS c b mo s oa.isSome).length:=by rw [fV];split <;> omega
 have hA':=(hA π (irS c b mo s oa.isSome).length hπ)
 have hA2:fO X f H π (irS c b mo s oa.isSome).length 0 (.ptr o 0 0 0 :: xs) (.ptr 0 0 0 0 :: ys):=fO.ptr hI hrw hπ0 hK hA'
 have hoa:oa.isSome = false→s.o = []:=by
  intro h1
  cases oa with
  | some a=>cases h1
  | none=>obtain ⟨⟨vo,τ1,τ,_,_,_,ho⟩,_⟩:=h;exact ho.1
 obtain ⟨π'',S',v0,H',τf,hE,hτf,hI',hok',hid,⟨s',l,r',hS',hv0,hr',hQ,hil⟩,hlen,hfix,hnew,hrest⟩:=Ev1.img (C:=X) (T:=evT X) (f:=f) (H:=H) (n:=n) (ys:=.ptr 0 0 0 0 :: ys) (Q:=fun S' v0=>∃ s' l r',S' = irS c b mo s' r'∧v0 = aO l∧(r' = false→s'.o = [])∧Q s' l r'∧aB l = []∧aU l = []∧fB l = true∧(oa.isSome = true→r' = true)) (bW X) hF hb hI (BL c b mo s _) hA2
  (by rw [show aB (AV.ptr 0 0 0 0 :: ys) = [0] by simp [aB,ids,hi]];exact BM c b mo s _) (by simp;omega) hng (by
   intro E hEl hEI
   obtain ⟨oa1,hV,hπ1,hs1,EC⟩:=IrV.nU hEI (by rw [qU,if_pos hK]) hoa
   have aax:oa1 = oa.map fun _=>1:=by
    cases oa with
    | none=>cases oa1 with
     | none=>rfl
     | some a=>cases hs1
    | some a=>cases oa1 with
     | none=>cases hs1
     | some a1 =>
      obtain ⟨g,hg⟩:=EC a1 rfl
      rw [qU] at hg
      simp [fV] at hg
      rw [Option.map_some,← hg.1]
   rw [aax] at hV
   obtain ⟨out,hout,hrun⟩:=run (irS c b mo s oa.isSome).length E hV
   refine ⟨out,⟨hout.1,?_⟩,hrun⟩
   obtain ⟨s',oa',l,hr,hil,htl,hnt,hV',ho',hQ⟩:=hout.2
   obtain ⟨π',hI',hπ',EF⟩:=hV'.img
   have Vh:oa'.isSome = false→s'.o = []:=by
    intro h1
    cases oa' with
    | some a=>cases h1
    | none=>obtain ⟨⟨vo,τ1,τ,_,_,_,ho⟩,_⟩:=hV';exact ho.1
   refine Leaves.plain hr hil htl hnt hI' (BL c b mo s' _) ?_ ?_ ?_ ?_ ⟨s',l,_,rfl,rfl,Vh,hQ,hil,htl,hnt,?_⟩
   ·rw [fV,fV]
    cases oa with
    | none=>cases oa'.isSome <;> simp
    | some a=>rw [ho' (by simp)];simp
   ·intro k hk
    cases oa with
    | none =>
     rw [fV] at hk
     simp at hk
     subst hk
     exact ⟨0,EF⟩
    | some a =>
     rw [fV] at hk
     simp at hk
     have:k = 0∨k = 1:=by omega
     rcases this with rfl | rfl
     ·exact ⟨0,EF⟩
     ·rw [ho' (by simp)] at hπ'
      have h1:(π'.map Prod.fst)[1]? = some 1:=by rw [hπ'];rfl
      rw [List.getElem?_map] at h1
      cases hp:π'[1]? with
      | none=>rw [hp] at h1;cases h1
      | some x =>
       rw [hp] at h1
       simp at h1
       exact ⟨x.2,by rw [← h1]⟩
   ·intro k ob ob' h1 h2
    cases hx:oa.isSome <;> cases hy:oa'.isSome <;> rw [hx] at h1 <;> rw [hy] at h2
    all_goals
     match k,h1,h2 with
     | 0,h1,h2 =>
      have e1:=Option.some.inj h1
      have e2:=Option.some.inj h2
      subst e1 e2;rfl
     | 1,h1,h2=>first | (simp [irS] at h1;done) | (simp [irS] at h2;done) | (
      have e1:=Option.some.inj h1
      have e2:=Option.some.inj h2
      subst e1 e2;rfl)
     | k + 2,h1,h2=>simp [irS] at h1
   ·intro k hk1 hk2
    cases hx:oa.isSome <;> cases hy:oa'.isSome <;> rw [hx,fV] at hk1 <;> rw [hy,fV] at hk2 <;> simp at hk1 hk2
    all_goals first | omega | skip
    have:k = 1:=by omega
    subst this
    rw [show List.range (irS c b mo s false).length = [0] from rfl,BM]
    rw [fV];simp
   ·intro h1
    cases oa with
    | none=>cases h1
    | some a=>rw [ho' (by simp)];rfl)
 subst hS' hv0
 obtain ⟨g0,hg0⟩:=hfix 0 o 0 hπ0
 have Vj:g0 = 0:=by
  obtain ⟨o',g',ob,q1,q2,q3⟩:=hI'.ob 0 _ (by cases r' <;> rfl:(irS c b mo s' r')[0]? = some (bK c b mo s' (if r' then .sl 1 0 s'.o.length 0 else .ro 0 .pn 0) 0 0))
  rw [hg0] at q1
  simp only [Option.some.injEq,Prod.mk.injEq] at q1
  obtain ⟨_,rfl⟩:=q1
  exact (q3.bx rfl).2.2
 subst Vj
 obtain ⟨oa',hV',Vk,hs',hat'⟩:=IrV.nU hI' hg0 hr'
 obtain ⟨hil,htl,hnt,hmono⟩:=hil
 rw [jd (aO l) (by rw [lu hnt];exact hil) (fun k hk=>by rw [jX hnt,htl] at hk;cases hk)] at hE
 refine ⟨H',oa',s',l,dZ hE,hV',by rw [hs'];exact hQ,hlen,?_,?_,?_⟩
 ·intro a ha
  subst ha
  cases oa' with
  | none =>
   have:=hmono rfl
   rw [this] at hs';cases hs'
  | some a' =>
   obtain ⟨g,hg⟩:=hat' a' rfl
   have h1:(π.map Prod.fst)[1]? = some a:=by rw [hπ];rfl
   rw [List.getElem?_map] at h1
   cases hp:π[1]? with
   | none=>rw [hp] at h1;cases h1
   | some x =>
    rw [hp] at h1
    simp at h1
    obtain ⟨g2,hg2⟩:=hfix 1 x.1 x.2 hp
    rw [hg] at hg2
    simp at hg2
    rw [hg2.1,h1]
 ·intro a ha ha'
  subst ha ha'
  obtain ⟨g,hg⟩:=hat' a rfl
  exact hnew 1 a g (by rw [fV];simp) hg
 ·intro j hj hjo hja
  refine hrest j hj ?_
  intro k x g hk e
  have h1:x ∈ π.map Prod.fst:=List.mem_map.2 ⟨(x,g),List.mem_of_getElem? hk,rfl⟩
  rw [hπ] at h1
  rcases List.mem_cons.1 h1 with h1 | h1
  ·exact hjo (e.trans h1)
  ·cases oa with
   | none=>simp at h1
   | some a =>
    simp at h1
    exact hja a rfl (e.trans h1)
end
end Go.Proofs.Ytcllinmgllmpmaa
namespace Go.Proofs.Ytcllinmgllmpmaa
open Go.AM
structure Kpt (H H':AM.Heap) (o:Nat) (oa oa':Option Nat):Prop where
 len:H.length≤H'.length
 same:∀ a,oa = some a→oa' = some a
 new:∀ a,oa = none→oa' = some a→H.length≤a
 rest:∀ j,j < H.length→j ≠ o→(∀ a,oa = some a→j ≠ a)→H'[j]? = H[j]?
theorem Kpt.refl (H:AM.Heap) (o:Nat) (oa:Option Nat):Kpt H H o oa oa:=⟨Nat.le_refl _,fun _ h=>h,fun a h h2=>(by rw [h] at h2;cases h2),fun _ _ _ _=>rfl⟩
theorem Kpt.trans {H H1 H2:AM.Heap} {o:Nat} {oa oa1 oa2:Option Nat} (h:Kpt H H1 o oa oa1) (h2:Kpt H1 H2 o oa1 oa2):Kpt H H2 o oa oa2 where
 len:=Nat.le_trans h.len h2.len
 same:=fun a ha=>h2.same a (h.same a ha)
 new:=by
  intro a ha ha2
  cases h1:oa1 with
  | none=>exact Nat.le_trans h.len (h2.new a h1 ha2)
  | some x =>
   have:=h2.same x h1
   rw [ha2] at this
   cases this
   exact h.new a ha h1
 rest:=by
  intro j hj hjo hja
  rw [h2.rest j (Nat.lt_of_lt_of_le hj h.len) hjo ?_,h.rest j hj hjo hja]
  intro a ha
  cases h1:oa with
  | none=>have:=h.new a h1 ha;omega
  | some x =>
   have:=h.same x h1
   rw [ha] at this
   cases this
   exact hja a h1
theorem Kpt.upd {H:AM.Heap} {o:Nat} {oa:Option Nat} (x:Option AM.Obj):Kpt H (AM.upd H o x) o oa oa where
 len:=by simp [AM.upd]
 same:=fun _ h=>h
 new:=fun a h h2=>by rw [h] at h2;cases h2
 rest:=fun j hj hjo _=>by unfold AM.upd;rw [List.getElem?_set_ne (Ne.symm hjo)]
theorem Kpt.cat {H:AM.Heap} {o:Nat} {oa:Option Nat} (r:AM.Heap):Kpt H (H ++ r) o oa oa where
 len:=by simp
 same:=fun _ h=>h
 new:=fun a h h2=>by rw [h] at h2;cases h2
 rest:=fun j hj hjo _=>List.getElem?_append_left hj
def fP (b:List UInt8) (mo:Int) (s:Is):Prop:=s.k≤8 * b.length∧(s.o.length:Int)≤mo
def dw (b:List UInt8) (mo:Int) {α:Type} (m:PM α) (d:α) (s s':Is) (a:α):Prop :=
 fP b mo s'∧if s.e = 0 then (match m s.k s.o with
  | .ok x k o=>s' = ⟨k,o,0⟩∧a = x
  | .err e=>s'.e = e∧e ≠ 0∧a = d) else s' = s∧a = d
section
variable {b:List UInt8} {mo:Int} {α β:Type} {s s1 s2:Is}
theorem dw.bnd {m:PM α} {f:α→PM β} {d x:α} {d2 y:β} (h:dw b mo m d s s1 x) (h2:dw b mo (f x) d2 s1 s2 y):dw b mo (dG m f) d2 s s2 y:=by
 refine ⟨h2.1,?_⟩
 have h1:=h.2
 have h3:=h2.2
 by_cases he:s.e = 0
 ·rw [if_pos he] at h1 ⊢
  unfold dG
  cases hm:m s.k s.o with
  | ok a k o =>
   rw [hm] at h1
   obtain ⟨rfl,rfl⟩:=h1
   simpa using h3
  | err e =>
   rw [hm] at h1
   obtain ⟨h4,h5,rfl⟩:=h1
   rw [if_neg (by rw [h4];exact h5)] at h3
   obtain ⟨rfl,rfl⟩:=h3
   exact ⟨h4,h5,rfl⟩
 ·rw [if_neg he] at h1 ⊢
  obtain ⟨rfl,rfl⟩:=h1
  rw [if_neg he] at h3
  exact h3
theorem dw.ret {a d:α} (hs:fP b mo s) (h:s.e ≠ 0→a = d):dw b mo (mG a) d s s a:=by
 refine ⟨hs,?_⟩
 by_cases he:s.e = 0
 ·rw [if_pos he]
  exact ⟨by rw [← he],rfl⟩
 ·rw [if_neg he]
  exact ⟨rfl,h he⟩
theorem dw.map {m:PM α} {d x:α} (g:α→β) (h:dw b mo m d s s1 x):dw b mo (dG m fun a=>mG (g a)) (g d) s s1 (g x):=by
 have h1:=h.2
 refine ⟨h.1,?_⟩
 by_cases he:s.e = 0
 ·rw [if_pos he] at h1 ⊢
  unfold dG
  cases hm:m s.k s.o with
  | ok a k o =>
   rw [hm] at h1
   obtain ⟨rfl,rfl⟩:=h1
   exact ⟨rfl,rfl⟩
  | err e =>
   rw [hm] at h1
   obtain ⟨h4,h5,rfl⟩:=h1
   exact ⟨h4,h5,rfl⟩
 ·rw [if_neg he] at h1 ⊢
  obtain ⟨rfl,rfl⟩:=h1
  exact ⟨rfl,rfl⟩
theorem dw.stop {m:PM α} {d:α} (hs:fP b mo s) (he:s.e ≠ 0):dw b mo m d s s d:=⟨hs,by rw [if_neg he];exact ⟨rfl,rfl⟩⟩
theorem dw.stopped {m:PM α} {d x:α} (h:dw b mo m d s s1 x) (he:s.e ≠ 0):s1 = s∧x = d:=by
 have:=h.2
 rwa [if_neg he] at this
theorem dw.fine {m:PM α} {d x:α} (h:dw b mo m d s s1 x) (he:s1.e = 0):s.e = 0∧m s.k s.o = .ok x s1.k s1.o:=by
 have h1:=h.2
 by_cases h0:s.e = 0
 ·rw [if_pos h0] at h1
  cases hm:m s.k s.o with
  | ok a k o =>
   rw [hm] at h1
   obtain ⟨rfl,rfl⟩:=h1
   exact ⟨h0,rfl⟩
  | err e =>
   rw [hm] at h1
   exact absurd (h1.1.symm.trans he) h1.2.1
 ·rw [if_neg h0] at h1
  exact absurd (h1.1 ▸ he) h0
theorem dw.err {m:PM α} {d x:α} (h:dw b mo m d s s1 x) (h0:s.e = 0) (he:s1.e ≠ 0):m s.k s.o = .err s1.e∧x = d:=by
 have h1:=h.2
 rw [if_pos h0] at h1
 cases hm:m s.k s.o with
 | ok a k o =>
  rw [hm] at h1
  obtain ⟨rfl,rfl⟩:=h1
  exact absurd rfl he
 | err e =>
  rw [hm] at h1
  exact ⟨by rw [h1.1],h1.2.2⟩
theorem dw.Es {m:PM α} {d:α} {e:Int} (hs:fP b mo s1) (h0:s.e = 0) (hm:m s.k s.o = .err e) (he:s1.e = e) (hne:e ≠ 0):dw b mo m d s s1 d:=⟨hs,by rw [if_pos h0,hm];exact ⟨he,hne,rfl⟩⟩
theorem dw.Qi {m:PM α} {d x:α} {k:Nat} {o:List UInt8} (hs:fP b mo ⟨k,o,0⟩) (h0:s.e = 0) (hm:m s.k s.o = .ok x k o):dw b mo m d s ⟨k,o,0⟩ x:=⟨hs,by rw [if_pos h0,hm];exact ⟨rfl,rfl⟩⟩
end
def gJ (s:Is) (e:Int):Is:=if s.e = 0 then { s with e:=e } else s
theorem dw.bad {b:List UInt8} {mo:Int} {α:Type} {s:Is} {e:Int} {d:α} (hs:fP b mo s) (he:e ≠ 0):dw b mo (nX e) d s (gJ s e) d:=by
 unfold gJ
 by_cases h0:s.e = 0
 ·rw [if_pos h0]
  exact dw.Es (e:=e) ⟨hs.1,hs.2⟩ h0 rfl rfl he
 ·rw [if_neg h0]
  exact dw.stop hs h0
section
variable {c:Nat} {b:List UInt8} {mo:Int} {t:Nat} {H:AM.Heap} {o:Nat} {oa:Option Nat} {s:Is}
theorem OuV.upd {vo:AV} {l:List UInt8} {x:Option AM.Obj} (h:OuV t H oa vo l) (hne:∀ a,oa = some a→a ≠ o):OuV t (AM.upd H o x) oa vo l:=by
 cases oa with
 | none=>exact h
 | some a =>
  obtain ⟨g,τ,ob,h1,h2,h3,h4⟩:=h
  exact ⟨g,τ,ob,h1,h2,wB h3 (Ne.symm (hne a rfl)),h4⟩
theorem IrV.set {s':Is} {vo:AV} {τ1 τ:Nat} (hne:∀ a,oa = some a→a ≠ o) (h1:τ1 = 0∨τ1 = t) (h2:τ = 0∨τ = t) (ho:o < H.length) (hv:OuV t H oa vo s'.o):IrV c b mo t (AM.upd H o (some (bK c b mo s' vo τ1 τ))) o oa s' :=
 ⟨⟨vo,τ1,τ,h1,h2,by unfold AM.upd;rw [List.getElem?_set_self ho],hv.upd hne⟩,hne⟩
theorem IrV.lt (h:IrV c b mo t H o oa s):o < H.length∧∀ a,oa = some a→a < H.length:=by
 obtain ⟨⟨vo,τ1,τ,_,_,h0,ho⟩,_⟩:=h
 refine ⟨fA h0,fun a ha=>?_⟩
 subst ha
 obtain ⟨g,τ,ob,_,_,h3,_⟩:=ho
 exact fA h3
theorem IrV.keep {H':AM.Heap} (h:IrV c b mo t H o oa s) (h1:H'[o]? = H[o]?) (h2:∀ a,oa = some a→H'[a]? = H[a]?):IrV c b mo t H' o oa s:=by
 obtain ⟨⟨vo,τ1,τ,a1,a2,h0,ho⟩,hne⟩:=h
 refine ⟨⟨vo,τ1,τ,a1,a2,by rw [h1];exact h0,?_⟩,hne⟩
 cases oa with
 | none=>exact ho
 | some a =>
  obtain ⟨g,τ,ob,b1,b2,b3,b4⟩:=ho
  exact ⟨g,τ,ob,b1,b2,by rw [h2 a rfl];exact b3,b4⟩
theorem IrV.cat {r:AM.Heap} (h:IrV c b mo t H o oa s):IrV c b mo t (H ++ r) o oa s:=h.keep (List.getElem?_append_left h.lt.1) fun a ha=>List.getElem?_append_left (h.lt.2 a ha)
theorem IrV.other {j:Nat} {x:Option AM.Obj} (h:IrV c b mo t H o oa s) (h1:j ≠ o) (h2:∀ a,oa = some a→j ≠ a):IrV c b mo t (AM.upd H j x) o oa s :=
 h.keep (by unfold AM.upd;rw [List.getElem?_set_ne h1]) fun a ha=>by unfold AM.upd;rw [List.getElem?_set_ne (h2 a ha)]
theorem F8 {m:Nat} {e:Int} {E:AM.Heap} (h:IrV c b mo t E 0 oa s):∃ code,Try.f39.body = some code ∧
  aj (kF fun fr E'=>IrV c b mo t E' 0 oa (gJ s e)) X (evT X) 39 m code [(0,.ptr 0 0 0 0),(1,.int .i64 e)] E:=by
 refine ⟨_,rfl,?_⟩
 obtain ⟨⟨vo,τ1,τ,a1,a2,h0,ho⟩,hne⟩:=id h
 unfold gJ
 by_cases he:s.e = 0
 ·rw [if_pos he]
  refine ⟨⟨.normal,[],AM.upd E 0 (some (bK c b mo { s with e:=e } vo τ1 τ))⟩,⟨.inl rfl,IrV.set hne a1 a2 h.lt.1 ho⟩,?_⟩
  simp only [bK,he] at h0 ⊢
  (refine ⟨0,?_⟩;simp (maxSteps:=2000000) -implicitDefEqProofs [-getElem?_pos,go_sem,eqV,ah,h0])
 ·rw [if_neg he]
  have heb:(s.e == 0) = false:=by simpa using he
  refine ⟨⟨.normal,[(0,.ptr 0 0 0 0),(1,.int .i64 e),(8,.bool false)],E⟩,⟨.inl rfl,h⟩,?_⟩
  simp only [bK] at h0
  (refine ⟨0,?_⟩;simp (maxSteps:=2000000) -implicitDefEqProofs [-getElem?_pos,go_sem,eqV,ah,h0,he,heb])
theorem lJ {e:Int} (h:IrV c b mo t H o oa s):∃ H',evT X 39 [.ptr o 0 0 0,.int .i64 e] H = some (.tup [],H')∧IrV c b mo t H' o oa (gJ s e)∧Kpt H H' o oa oa:=by
 obtain ⟨code,hc,_⟩:=F8 (m:=0) (e:=e) (E:=[some (bK c b mo s (.ro 0 .pn 0) 0 0)]) (c:=c) (b:=b) (mo:=mo) (t:=0) (oa:=none) (s:=⟨s.k,[],s.e⟩) ⟨⟨_,0,0,.inl rfl,.inl rfl,rfl,rfl,0,.inl rfl,rfl⟩,fun a h=>by cases h⟩
 obtain ⟨H',oa',s',l,hE,hV,⟨hs,hl,hr⟩,h1,h2,h3,h4⟩:=Qg (f:=39) (n:=3) (xs:=[.int .i64 e]) (ys:=[.int .i64 e]) (Q:=fun s' l r=>s' = gJ s e∧l = []∧r = oa.isSome) Try.func39 hc rfl h (fun π K _=>fO.flat rfl rfl fO.nil) rfl rfl (by simp [dI]) (by
  intro m E hE
  obtain ⟨pF,hc2,ht⟩:=F8 (m:=m) (e:=e) hE
  rw [hc] at hc2
  obtain rfl:=Option.some.inj hc2
  rw [acT]
  exact ht.mono fun o ho=>⟨ho.1,_,_,[],rfl,rfl,rfl,rfl,ho.2,fun h=>(by cases oa with
   | none=>exact absurd rfl h
   | some a=>rfl),rfl,rfl,by cases oa <;> rfl⟩)
 subst hs hl
 have hoa:oa' = oa:=by
  cases oa with
  | none=>cases oa' with
   | none=>rfl
   | some a=>cases hr
  | some a=>exact h2 a rfl
 subst hoa
 exact ⟨H',hE,hV,⟨h1,h2,h3,h4⟩⟩
theorem qQ {e:Int} (h:IrV c b mo t H o oa s):∃ H' oa',evT X 39 [.ptr o 0 0 0,.int .i64 e] H = some (.tup [],H')∧IrV c b mo t H' o oa' (gJ s e)∧Kpt H H' o oa oa':=by
 obtain ⟨H',h1,h2,h3⟩:=lJ (e:=e) h
 exact ⟨H',oa,h1,h2,h3⟩
theorem bsB (H:AM.Heap) (y:UInt8):cO X H 22 1 [(0,.int .u8 (y.toNat:Nat))] = some (.ro 1 (.pb [y]) 0,H):=by
 have:=y.toNat_lt
 have h1:(y.toNat:Int) < 256:=by omega
 simp [cO,jT,uP,mkRow,jP,eG,cellsOf,scalars,scalar,aB,ids,aU,tags,dQ,h1]
theorem OuV.app {vo:AV} {l:List UInt8} (y:UInt8) (h:OuV t H oa vo l) (hH:0 < H.length) (hne:∀ a,oa = some a→a ≠ 0) (hl:l.length≤10000000):∃ v' H' oa',bV X H 22 vo (.ro 1 (.pb [y]) 0) = some (v',H')∧OuV t H' oa' v' (l ++ [y])∧Kpt H H' 0 oa oa'∧H'[0]? = H[0]?∧(∀ a,oa' = some a→a ≠ 0):=by
 cases oa with
 | none =>
  obtain ⟨rfl,τ,hτ,rfl⟩:=h
  have hat:(H ++ [some (⟨.pb [y],0,none,0,true,false,0⟩:AM.Obj)])[H.length]? = some (some ⟨.pb [y],0,none,0,true,false,0⟩):=by simp
  refine ⟨.sl H.length 0 1 0,H ++ [some ⟨.pb [y],0,none,0,true,false,0⟩],some H.length,?_,⟨0,0,_,.inl rfl,rfl,hat,⟨rfl,rfl,rfl,rfl,rfl⟩⟩,⟨by simp,fun a h=>(by cases h),fun a _ h=>(by cases h;exact Nat.le_refl _),fun j hj _ _=>List.getElem?_append_left hj⟩,List.getElem?_append_left hH,fun a h=>by cases h;omega⟩
  simp only [bV,qW,wH,Ez]
  simp [kP,nT,ah,ql,fQ,qR,bU,aK]
 | some a =>
  obtain ⟨g,τ,ob,hτ,rfl,ho,hw⟩:=h
  obtain ⟨ob',w1,w2⟩:=JG (C:=X) (T:=22) (e:=5) (src:=.ro 1 (.pb [y]) 0) (m:=[y]) qW OJ wH bytes5 Ez ho hw (.inl (by simp [kP,nT,ql])) (by simp;omega)
  refine ⟨_,_,some a,w2,⟨g + 1,τ,ob',hτ,by simp,setAt ho,w1⟩,⟨by simp [AM.upd],fun a' h=>h,fun a' h=>(by cases h),fun j hj h0 hja=>by unfold AM.upd;rw [List.getElem?_set_ne (Ne.symm (hja a rfl))]⟩,by unfold AM.upd;rw [List.getElem?_set_ne (hne a rfl)],hne⟩
theorem adk {m:Nat} {y:UInt8} {E:AM.Heap} {bb:Bool} (h:IrV c b mo t E 0 oa s):∃ code,((Try.f64.body).bind (aJ [1,0,0])) = some code∧Run X (evT X) 64 m code [(0,.ptr 0 0 0 0),(1,.int .u8 (y.toNat:Nat)),(8,.bool bb)] E ⟨.normal,[(0,.ptr 0 0 0 0),(1,.int .u8 (y.toNat:Nat)),(18,.bool (decide (mo≤s.o.length)))],E⟩:=by
 refine ⟨_,rfl,?_⟩
 obtain ⟨⟨vo,τ1,τ,a1,a2,h0,ho⟩,hne⟩:=id h
 simp only [bK] at h0
 cases oa with
 | none =>
  obtain ⟨h1,τ2,hτ2,rfl⟩:=ho
  rw [h1]
  (refine ⟨0,?_⟩;simp (maxSteps:=2000000) -implicitDefEqProofs [-getElem?_pos,go_sem,eqV,ah,h0])
 | some a =>
  obtain ⟨g,τ2,ob,hτ2,rfl,h3,h4⟩:=ho
  have hg:=h4.g
  generalize s.o.length = N at *
  (refine ⟨0,?_⟩;simp (maxSteps:=2000000) -implicitDefEqProofs [-getElem?_pos,go_sem,eqV,ah,h0,h3,hg])
theorem SC {m:Nat} {y:UInt8} {E:AM.Heap} (h:IrV c b mo t E 0 oa s) (hs:fP b mo s) (hm:mo≤1000000):∃ code,Try.f64.body = some code ∧
  aj (kF fun fr E'=>∃ s' oa',IrV c b mo t E' 0 oa' s'∧(∀ a,oa = some a→oa' = some a)∧dw b mo (qj mo y) () s s' ()) X (evT X) 64 m code [(0,.ptr 0 0 0 0),(1,.int .u8 (y.toNat:Nat))] E:=by
 refine ⟨_,rfl,?_⟩
 obtain ⟨⟨vo,τ1,τ,a1,a2,h0,ho⟩,hne⟩:=id h
 by_cases he:s.e = 0
 ·apply aj.seq (fr':=[(0,.ptr 0 0 0 0),(1,.int .u8 (y.toNat:Nat)),(8,.bool false)]) (H':=E)
  ·simp only [bK,he] at h0
   (refine ⟨0,?_⟩;simp (maxSteps:=2000000) -implicitDefEqProofs [-getElem?_pos,go_sem,eqV,ah,h0])
  apply aj.assoc
  apply aj.seq (piece (adk h) _ rfl)
  by_cases hl:(s.o.length:Int) < mo
  ·have hlI:decide (mo≤(s.o.length:Int)) = false:=by simpa using hl
   rw [hlI]
   have hbs:=bsB E y
   obtain ⟨v',E',oa',hA,hv',hk,hE0,hne'⟩:=ho.app y h.lt.1 hne (by omega)
   have h0':E'[0]? = some (some (bK c b mo s vo τ1 τ)):=by rw [hE0];exact h0
   refine ⟨⟨.normal,[],AM.upd E' 0 (some (bK c b mo ⟨s.k,s.o ++ [y],0⟩ v' τ1 τ))⟩,⟨.inl rfl,⟨s.k,s.o ++ [y],0⟩,oa',IrV.set hne' a1 a2 (fA h0') hv',hk.same,dw.Qi ⟨hs.1,by simp;omega⟩ he (by simp [qj,hl])⟩,?_⟩
   simp only [bK,he] at h0 h0' ⊢
   cases oa' with
   | none=>exact absurd hv'.1 (by simp)
   | some a =>
    obtain ⟨g,τ2,ob,_,rfl,_⟩:=hv'
    generalize (s.o ++ [y]).length = N at *
    (refine ⟨0,?_⟩;simp (maxSteps:=2000000) -implicitDefEqProofs [-getElem?_pos,go_sem,eqV,ah,h0,h0',hbs,hA])
  ·have hlI:decide (mo≤(s.o.length:Int)) = true:=by simp;omega
   rw [hlI]
   obtain ⟨H',oa',hE,hV,hk⟩:=qQ (e:=3) h
   have hfs:gJ s 3 = { s with e:=3 }:=by unfold gJ;rw [if_pos he]
   refine ⟨⟨.ret,[],H'⟩,⟨.inr rfl,_,oa',hV,hk.same,?_⟩,?_⟩
   ·rw [hfs]
    exact dw.Es (e:=3) ⟨hs.1,hs.2⟩ he (by simp [qj,hl]) rfl (by simp)
   ·(refine ⟨0,?_⟩;simp (maxSteps:=2000000) -implicitDefEqProofs [-getElem?_pos,go_sem,eqV,ah,hE])
 ·refine ⟨⟨.ret,[(0,.ptr 0 0 0 0),(1,.int .u8 (y.toNat:Nat)),(8,.bool true)],E⟩,⟨.inr rfl,s,oa,h,fun a ha=>ha,dw.stop hs he⟩,?_⟩
  have heb:(s.e != 0) = true:=by simpa using he
  simp only [bK] at h0
  (refine ⟨0,?_⟩;simp (maxSteps:=2000000) -implicitDefEqProofs [-getElem?_pos,go_sem,eqV,ah,h0,he,heb])
end
end Go.Proofs.Ytcllinmgllmpmaa
