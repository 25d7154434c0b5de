/- DR to QH: texts of this claim, one behind the other; what each shows stands at its head. -/
import Derived.Test.YteblpjhkgdpchaaMg4
set_option linter.unusedSimpArgs false
set_option linter.unusedVariables false
set_option maxRecDepth 100000
set_option maxHeartbeats 8000000
namespace Go.Proofs.Yteblpjhkgdpchaa
open Go.AM
def lcX:List Int:=((List.range 144).map fun i=>Int.ofNat (48 + i)) ++ ((List.range 112).map fun i=>Int.ofNat (400 + i)) ++ ((List.range 24).map fun i=>Int.ofNat i) ++ ((List.range 8).map fun i=>Int.ofNat (192 + i))
def dcX:List Int:=(List.range 32).map fun i=>Int.ofNat i
theorem WZ:lcL = lcX:=by decide +kernel
theorem UJ:rJ flL = lcX:=by decide +kernel
theorem W9:dcL = dcX:=by decide +kernel
theorem UK:rJ flD = dcX:=by decide +kernel
theorem P7:(jG flL).2 = 0∧(jG flD).2 = 0∧(mxL 0 flL).toNat = 9∧(mxL 0 flD).toNat = 5:=by decide +kernel
theorem Gd.nil:Gd ⟨0,[]⟩:=⟨rfl,fun i _=>by unfold mV;simp⟩
end Go.Proofs.Yteblpjhkgdpchaa
namespace Go.Proofs.Yteblpjhkgdpchaa
open Go.AM
theorem Si {s:Ws} {cs ls:List Int} {y:Nat} (h:iq s) (hk:1≤s.k):(uD s cs ls y).o ≠ []:=by
 obtain ⟨h1,h2⟩:=iC (cs:=cs) (ls:=ls) (y:=y) h
 intro e
 unfold iq at h1
 rw [e] at h1
 simp at h1
 omega
theorem MF {l:List Px} (hm:∀ x ∈ l,kS x = true):(OT l).o ≠ []:=by
 unfold OT
 have h0:iq ⟨0,[]⟩:=rfl
 obtain ⟨h1,h2⟩:=bT (x:=1) h0 1
 obtain ⟨h3,h4⟩:=bT (x:=1) h1 2
 obtain ⟨h5,h6⟩:=yh l _ h3 hm
 have hmono:∀ (l:List Px) (s:Ws),iq s→(∀ x ∈ l,kS x = true)→s.k≤(l.foldl pxW s).k:=by
  intro l
  induction l with
  | nil=>intro s _ _;exact Nat.le_refl _
  | cons x l ih =>
   intro s hs hm
   obtain ⟨h1,_⟩:=Fz hs (hm x (List.mem_cons_self ..))
   refine Nat.le_trans ?_ (ih (pxW s x) h1 fun y hy=>hm y (List.mem_cons_of_mem _ hy))
   unfold pxW
   split
   ·have:=(iC (cs:=lcL) (ls:=flL) (y:=x.byte.toNat) hs).2
    omega
   ·have a1:=iC (cs:=lcL) (ls:=flL) (y:=(lenOf x.len.toNat).1) hs
    have a2:=bT (x:=x.len - ((lenOf x.len.toNat).2.1:Nat)) a1.1 (lenOf x.len.toNat).2.2
    have a3:=iC (cs:=dcL) (ls:=flD) (y:=(bU x.dist.toNat).1) a2.1
    have a4:=bT (x:=x.dist - ((bU x.dist.toNat).2.1:Nat)) a3.1 (bU x.dist.toNat).2.2
    have b1:=a1.2;have b2:=a2.2;have b3:=a3.2;have b4:=a4.2
    omega
 have:=hmono l _ h3 hm
 exact Si h5 (by omega)
theorem MG {H:AM.Heap} {o:Nat} {l:List Int} (h:H[o]? = some (some (flO l))):iD H (.sl o 0 l.length 0) = some (.pi .i64 l):=by
 simp [iD,live,h,flO,jo]
theorem adY:qF X 46 [] = some (.agg (.pc [.ro 0 .pn 0,.int .i64 0])):=by kernel_rfl
def fiX (l:List Px) (fr:AM.Frame) (E:AM.Heap):Prop:=∃ a g ob,aI fr 2 = .sl a 0 (iT l).1.length g∧aI fr 3 = .int .i64 (iT l).2∧E[a]? = some (some ob)∧Rw (.pb (iT l).1) g ob
section
variable {c:Nat} {l:List Px}
theorem KN {m:Nat} (hl:l.length≤2000):∃ code,Try.f22.body = some code∧au (nY (fiX l)) X (evT X) 22 m code [(0,.ro c (.pr 3 (l.map pxR)) 1)] []:=by
 refine ⟨_,rfl,?_⟩
 obtain ⟨obE,hwE,hEx⟩:=Nj (H:=[some (⟨.pb [],0,none,0,true,false,0⟩:AM.Obj)]) (a:=.ro c (.pr 3 (l.map pxR)) 1) (l:=l) rfl hl
 have hmay:=Ba (l:=l) (o:=[])
 unfold fiX iT
 generalize hex:jY l [] = r at *
 obtain ⟨o,e⟩:=r
 simp only at hEx hmay ⊢
 apply au.seq (fr':=[(0,.ro c (.pr 3 (l.map pxR)) 1)]) (H':=[some (⟨.pb [],0,none,0,true,false,0⟩:AM.Obj)])
 ·generalize l.map pxR = R at *
  (refine ⟨0,?_⟩;simp (maxSteps:=2000000) -implicitDefEqProofs [-getElem?_pos,go_sem,eqV,aj,aC,rowOf,AO])
 apply au.assoc
 apply au.seq (fr':=[(0,.ro c (.pr 3 (l.map pxR)) 1),(5,.int .i64 e)]) (H':=[some (⟨.pb [],0,none,0,true,false,0⟩:AM.Obj),some obE])
 ·simp only [List.length_singleton,List.singleton_append] at hEx
  generalize l.map pxR = R at *
  generalize o.length = K at *
  (refine ⟨0,?_⟩;simp (maxSteps:=2000000) -implicitDefEqProofs [-getElem?_pos,go_sem,eqV,aj,hEx,aC])
 apply au.assoc
 by_cases he:¬ e = 0
 ·have heb:(e != 0) = true:=by simpa using he
  rw [if_pos he]
  refine au.of (o:=⟨.ret,[(2,.sl 2 0 0 0),(3,.int .i64 e)],[some (⟨.pb [],0,none,0,true,false,0⟩:AM.Obj),some obE,some (⟨.pb [],0,none,0,true,false,0⟩:AM.Obj)]⟩) ?_ ⟨rfl,2,0,_,rfl,rfl,rfl,⟨rfl,rfl,rfl,rfl,rfl⟩⟩
  apply Run.seq (fr':=[(0,.ro c (.pr 3 (l.map pxR)) 1),(5,.int .i64 e),(24,.bool true)]) (H':=[some (⟨.pb [],0,none,0,true,false,0⟩:AM.Obj),some obE])
  ·generalize l.map pxR = R at *
   (refine ⟨0,?_⟩;simp (maxSteps:=2000000) -implicitDefEqProofs [-getElem?_pos,go_sem,eqV,aj,he,heb])
  refine Run.bH ?_ (by simp)
  refine Run.cond (d:=true) (by simp [aK,aI]) ?_
  apply Run.seq (fr':=[(2,.sl 2 0 0 0),(3,.int .i64 e)]) (H':=[some (⟨.pb [],0,none,0,true,false,0⟩:AM.Obj),some obE,some (⟨.pb [],0,none,0,true,false,0⟩:AM.Obj)])
  ·generalize l.map pxR = R at *
   (refine ⟨0,?_⟩;simp (maxSteps:=2000000) -implicitDefEqProofs [-getElem?_pos,go_sem,eqV,aj,aC,rowOf,AO])
  ·exact ⟨0,rfl⟩
 have he:e = 0:=Classical.not_not.1 he
 subst he
 rw [if_neg (by simp)]
 simp only
 have hm:=hmay rfl
 apply au.seq (fr':=[(0,.ro c (.pr 3 (l.map pxR)) 1),(5,.int .i64 0),(24,.bool false)]) (H':=[some (⟨.pb [],0,none,0,true,false,0⟩:AM.Obj),some obE])
 ·generalize l.map pxR = R at *
  (refine ⟨0,?_⟩;simp (maxSteps:=2000000) -implicitDefEqProofs [-getElem?_pos,go_sem,eqV,aj])
 apply au.seq (fr':=[(0,.ro c (.pr 3 (l.map pxR)) 1),(5,.int .i64 0),(24,.bool false)]) (H':=[some (⟨.pb [],0,none,0,true,false,0⟩:AM.Obj),some obE])
 ·exact Run.cond (d:=false) (by simp [aK,aI]) ⟨0,rfl⟩
 have hF:=aan [some (⟨.pb [],0,none,0,true,false,0⟩:AM.Obj),some obE]
 have hC1:=LQ (H:=[some (⟨.pb [],0,none,0,true,false,0⟩:AM.Obj),some obE,some (flO flL),some (flO flD)]) (a:=.sl 2 0 288 0) (l:=flL) (by have:=MG (H:=[some (⟨.pb [],0,none,0,true,false,0⟩:AM.Obj),some obE,some (flO flL),some (flO flD)]) (o:=2) (l:=flL) rfl;rwa [iY] at this) Uc
 have hC2:=LQ (H:=[some (⟨.pb [],0,none,0,true,false,0⟩:AM.Obj),some obE,some (flO flL),some (flO flD),dK 288 lcL]) (a:=.sl 3 0 32 0) (l:=flD) (by have:=MG (H:=[some (⟨.pb [],0,none,0,true,false,0⟩:AM.Obj),some obE,some (flO flL),some (flO flD),dK 288 lcL]) (o:=3) (l:=flD) rfl;rwa [pU] at this) Ud
 rw [iY] at hC1
 rw [pU] at hC2
 simp only [List.length_cons,List.length_nil,List.cons_append,List.nil_append] at hF hC1 hC2
 change evT X _ _ _ = some (_,[_,_,_,_,dK 288 lcL]) at hC1
 change evT X _ _ _ = some (_,[_,_,_,_,_,dK 32 dcL]) at hC2
 have hV:FxV [some (⟨.pb [],0,none,0,true,false,0⟩:AM.Obj),some obE,some (flO flL),some (flO flD),dK 288 lcL,dK 32 dcL,some (fM ⟨0,[]⟩ (.ro 0 .pn 0) 0)] 2 3 4 5 6 none ⟨0,[]⟩:=⟨rfl,rfl,rfl,rfl,⟨⟨_,0,.inl rfl,rfl,rfl,0,.inl rfl,rfl⟩,fun a h=>by cases h⟩,by omega,fun a h=>(by cases h),rfl⟩
 generalize dK 288 lcL = r8 at *
 generalize dK 32 dcL = r10 at *
 generalize some (flO flL) = r6 at *
 generalize some (flO flD) = r7 at *
 generalize some (⟨.pb [],0,none,0,true,false,0⟩:AM.Obj) = r0 at *
 apply au.seq (fr':=[(0,.ro c (.pr 3 (l.map pxR)) 1),(6,.sl 2 0 288 0),(7,.sl 3 0 32 0)]) (H':=[r0,some obE,r6,r7])
 ·generalize l.map pxR = R at *
  (refine ⟨0,?_⟩;simp (maxSteps:=2000000) -implicitDefEqProofs [-getElem?_pos,go_sem,eqV,aj,hF,aC])
 apply au.seq (fr':=[(0,.ro c (.pr 3 (l.map pxR)) 1),(6,.sl 2 0 288 0),(7,.sl 3 0 32 0),(8,.sl 4 0 288 0)]) (H':=[r0,some obE,r6,r7,r8])
 ·generalize l.map pxR = R at *
  (refine ⟨0,?_⟩;simp (maxSteps:=2000000) -implicitDefEqProofs [-getElem?_pos,go_sem,eqV,aj,hC1,aC])
 apply au.seq (fr':=[(0,.ro c (.pr 3 (l.map pxR)) 1),(6,.sl 2 0 288 0),(7,.sl 3 0 32 0),(8,.sl 4 0 288 0),(10,.sl 5 0 32 0)]) (H':=[r0,some obE,r6,r7,r8,r10])
 ·generalize l.map pxR = R at *
  (refine ⟨0,?_⟩;simp (maxSteps:=2000000) -implicitDefEqProofs [-getElem?_pos,go_sem,eqV,aj,hC2,aC])
 apply au.seq (fr':=[(0,.ro c (.pr 3 (l.map pxR)) 1),(6,.sl 2 0 288 0),(7,.sl 3 0 32 0),(8,.sl 4 0 288 0),(10,.sl 5 0 32 0),(12,.ptr 6 0 0 0)]) (H':=[r0,some obE,r6,r7,r8,r10,some (fM ⟨0,[]⟩ (.ro 0 .pn 0) 0)])
 ·simp only [fM]
  generalize l.map pxR = R at *
  (refine ⟨0,?_⟩;simp (maxSteps:=2000000) -implicitDefEqProofs [-getElem?_pos,go_sem,eqV,aj,adY,aC])
 clear hC1 hC2 hF hEx
 generalize [r0,some obE,r6,r7,r8,r10,some (fM ⟨0,[]⟩ (.ro 0 .pn 0) 0)] = E0 at *
 obtain ⟨E1,oa1,g1,g2,g3⟩:=mQ (x:=1) (I:=1) (n:=1) rfl hV.wr hV.ok (by simp) (by omega)
 have hV1:=hV.step g2 g3 (bT hV.ok 1).1
 apply au.seq (fr':=[(0,.ro c (.pr 3 (l.map pxR)) 1),(6,.sl 2 0 288 0),(7,.sl 3 0 32 0),(8,.sl 4 0 288 0),(10,.sl 5 0 32 0),(12,.ptr 6 0 0 0)]) (H':=E1)
 ·generalize l.map pxR = R at *
  (refine ⟨0,?_⟩;simp (maxSteps:=2000000) -implicitDefEqProofs [-getElem?_pos,go_sem,eqV,aj,g1])
 have k1:=(bT (x:=1) hV.ok 1).2
 obtain ⟨E2,oa2,g4,g5,g6⟩:=mQ (x:=1) (I:=2) (n:=2) rfl hV1.wr hV1.ok (by rw [k1];simp) (by omega)
 have hV2:=hV1.step g5 g6 (bT hV1.ok 2).1
 have k2:=(bT (x:=1) hV1.ok 2).2
 apply au.seq (fr':=[(0,.ro c (.pr 3 (l.map pxR)) 1),(6,.sl 2 0 288 0),(7,.sl 3 0 32 0),(8,.sl 4 0 288 0),(10,.sl 5 0 32 0),(12,.ptr 6 0 0 0)]) (H':=E2)
 ·generalize l.map pxR = R at *
  (refine ⟨0,?_⟩;simp (maxSteps:=2000000) -implicitDefEqProofs [-getElem?_pos,go_sem,eqV,aj,g4])
 apply au.assoc
 apply au.seq (fr':=mP 2 3 4 5 6 c l 0) (H':=E2)
 ·have hll:(l.map pxR).length = l.length:=by simp
  simp only [mP]
  generalize l.map pxR = R at *
  generalize l.length = N at *
  (refine ⟨0,?_⟩;simp (maxSteps:=2000000) -implicitDefEqProofs [-getElem?_pos,go_sem,eqV,aj,hll])
 have hk3:(cu (cu ⟨0,[]⟩ 1 1) 1 2).k≤100:=by rw [k2,k1];simp
 apply au.andThen (piece (Rk (m:=m) (c:=c) hV2 hk3 hl hm) _ rfl)
 rintro fr E3 ⟨oa3,rfl,hV3⟩
 have hk4:=(yh l _ hV2.ok hm).2
 obtain ⟨E4,oa4,hV4,adZ⟩:=Ul (m:=m) (c:=c) (i:=l.length) (l:=l) (tl:=[(49,.bool false)]) hV3 (by omega)
 apply au.seq (piece adZ _ rfl)
 have hne:=MF hm
 unfold OT at hne ⊢
 obtain ⟨a,g,ob,q1,q2,ad1⟩:=Um (m:=m) hV4 hne
 generalize (uD (l.foldl pxW (cu (cu ⟨0,[]⟩ 1 1) 1 2)) lcL flL 256).o = B at *
 apply au.seq (piece ad1 _ rfl)
 exact au.of (o:=⟨.ret,[(2,.sl a 0 B.length g),(3,.int .i64 0)],E4⟩) ⟨0,rfl⟩ ⟨rfl,a,g,ob,rfl,rfl,q1,q2⟩
theorem Ob {H:AM.Heap} {a:AV} (ha:iD H a = some (.pr 3 (l.map pxR))) (hl:l.length≤2000):∃ ob,Rw (.pb (iT l).1) 0 ob∧evT X 22 [a] H = some (.tup [.sl H.length 0 (iT l).1.length 0,.int .i64 (iT l).2],H ++ [some ob]):=by
 obtain ⟨c,x,hx⟩:=fJ (C:=X) (f:=22) (i:=0) rfl ha (dQ 1)
 obtain ⟨code,hc,⟨out,⟨ho,a2,g,ob,h2,h3,h4,hw⟩,hrun⟩⟩:=KN (m:=0) (c:=c) (l:=l) hl
 obtain ⟨ob',q1,q2⟩:=Ev1.Fq (C:=X) (H:=H) (bJ X) (n:=(iT l).1.length) (l:=(iT l).1) (rest:=[.int .i64 (iT l).2]) Try.func22 hc hx rfl (by simp [dJ]) rfl rfl rfl (by
  rw [WQ]
  refine ⟨out,⟨ho,a2,g,ob,?_,h4,hw⟩,hrun⟩
  show bf X out.fr out.H [.tmp 2,.tmp 3] = _
  simp [bf,h2,h3])
 exact ⟨ob',q1,eH (by simpa [aW,gG] using q2)⟩
end
end Go.Proofs.Yteblpjhkgdpchaa
namespace Go.Proofs.Yteblpjhkgdpchaa
open Go.AM
def xJ (b:List UInt8):Ws:=cu (cu ⟨8,(cu ⟨0,[]⟩ 1 3).o⟩ (b.length:Nat) 16) (-(b.length:Int) - 1) 16
def gV (b:List UInt8):List UInt8:=(xJ b).o ++ b
theorem f13:(cu ⟨0,[]⟩ 1 3) = ⟨3,[1]⟩:=by kernel_rfl
theorem ad2:qF X 46 [] = some (.agg (.pc [.ro 0 .pn 0,.int .i64 0])):=by kernel_rfl
theorem UL:dB X 5 = .pb []:=by kernel_rfl
theorem Xa {L:Nat} (h:L≤65535):IntKind.i64.wrap ((AM.bits .i64 (if IntKind.i64.signed = true then -1 else 9223372036854775807) ^^^ AM.bits .i64 (L:Int)).toNat:Nat) = -(L:Int) - 1:=by
 have e1:AM.bits .i64 (if IntKind.i64.signed = true then -1 else 9223372036854775807) = BitVec.allOnes 64:=by kernel_rfl
 have e2:(BitVec.ofInt 64 (L:Int)).toNat = L:=by
  rw [BitVec.toNat_ofInt]
  show ((L:Int) % 18446744073709551616).toNat = L
  omega
 have e3:(AM.bits .i64 (if IntKind.i64.signed = true then -1 else 9223372036854775807) ^^^ AM.bits .i64 (L:Int)).toNat = 18446744073709551615 - L:=by
  rw [e1]
  show (BitVec.allOnes 64 ^^^ BitVec.ofInt 64 (L:Int)).toNat = _
  rw [BitVec.allOnes_xor,BitVec.toNat_not,e2]
 rw [e3]
 have e4:((18446744073709551615 - L:Nat):Int) = 18446744073709551615 - (L:Int):=by omega
 rw [e4]
 unfold IntKind.wrap
 simp [IntKind.bits,IntKind.signed]
 omega
section
variable {c:Nat} {b:List UInt8} {E:AM.Heap} {oa:Option Nat} {s:Ws}
def sH (c:Nat) (b:List UInt8):AM.Frame:=[(0,.ro c (.pb b) 1),(3,.ptr 1 0 0 0),(4,.int .i64 (b.length:Nat)),(5,.int .i64 1)]
theorem Xb {m:Nat} (h:WrV 0 E 1 oa s) (hne:s.o ≠ []) (hl:s.o.length≤1000000):∃ E',WrV 0 E' 1 oa ⟨s.o.length * 8,s.o⟩∧∃ code,((Try.f13.body).bind (aS [1,1,0,0,0,1,1,1,1,0])) = some code∧Run X (evT X) 13 m code (sH c b) E ⟨.normal,sH c b,E'⟩:=by
 obtain ⟨⟨vo,τ,a1,h0,ho⟩,hn⟩:=id h
 cases oa with
 | none=>exact absurd ho.1 hne
 | some a =>
  refine ⟨AM.upd E 1 (some (fM ⟨s.o.length * 8,s.o⟩ vo τ)),WrV.set hn a1 (iF h0) ho,_,rfl,?_⟩
  obtain ⟨g,τ2,ob,hτ2,rfl,h3,h4⟩:=ho
  have hg:=h4.g
  have w1:IntKind.i64.wrap ((s.o.length:Int) * 8) = ((s.o.length * 8:Nat):Int):=by rw [wrap_i64 (by omega) (by omega)];omega
  simp only [fM,sH] at h0 ⊢
  generalize s.o.length * 8 = k8 at *
  generalize s.o.length = N at *
  generalize b.length = L at *
  (refine ⟨0,?_⟩;simp (maxSteps:=2000000) -implicitDefEqProofs [-getElem?_pos,go_sem,eqV,aj,h0,h3,hg,w1])
theorem UM {m:Nat} (h:WrV 0 E 1 oa s) (hne:s.o ≠ []) (hl:s.o.length≤1000000):∃ E',WrV 0 E' 1 oa ⟨s.o.length * 8,s.o⟩∧∃ code,((Try.f13.body).bind (aS [1,1,0,0,0,1,1,1,1,1,1,1,1,0])) = some code∧Run X (evT X) 13 m code (sH c b) E ⟨.normal,sH c b,E'⟩:=by
 obtain ⟨⟨vo,τ,a1,h0,ho⟩,hn⟩:=id h
 cases oa with
 | none=>exact absurd ho.1 hne
 | some a =>
  refine ⟨AM.upd E 1 (some (fM ⟨s.o.length * 8,s.o⟩ vo τ)),WrV.set hn a1 (iF h0) ho,_,rfl,?_⟩
  obtain ⟨g,τ2,ob,hτ2,rfl,h3,h4⟩:=ho
  have hg:=h4.g
  have w1:IntKind.i64.wrap ((s.o.length:Int) * 8) = ((s.o.length * 8:Nat):Int):=by rw [wrap_i64 (by omega) (by omega)];omega
  simp only [fM,sH] at h0 ⊢
  generalize s.o.length * 8 = k8 at *
  generalize s.o.length = N at *
  generalize b.length = L at *
  (refine ⟨0,?_⟩;simp (maxSteps:=2000000) -implicitDefEqProofs [-getElem?_pos,go_sem,eqV,aj,h0,h3,hg,w1])
theorem UN {m:Nat} (h:WrV 0 E 1 oa s) (hne:s.o ≠ []) (hl:s.o.length≤1000000) (hb:b.length≤65535):∃ E',WrV 0 E' 1 oa ⟨s.k,s.o ++ b⟩∧∃ code,((Try.f13.body).bind (aS [1,1,0,0,0,1,1,1,1,1,1,1,0])) = some code∧Run X (evT X) 13 m code (sH c b) E ⟨.normal,sH c b,E'⟩:=by
 obtain ⟨⟨vo,τ,a1,h0,ho⟩,hn⟩:=id h
 cases oa with
 | none=>exact absurd ho.1 hne
 | some a =>
  obtain ⟨g,τ2,ob,hτ2,rfl,h3,h4⟩:=ho
  obtain ⟨ob',w1,w2⟩:=Gm (C:=X) (T:=28) (e:=5) (src:=.ro (if c = 0 then 0 else 2) (.pb b) 1) (m:=b) uf BA ug bytes5 BD h3 h4 (.inl (by simp [kD,oM,qO])) (by omega)
  have h0':(upd E a (some ob'))[1]? = some (some (fM s (.sl a 0 s.o.length g) τ)):=Bz h0 (hn a rfl)
  refine ⟨AM.upd (upd E a (some ob')) 1 (some (fM ⟨s.k,s.o ++ b⟩ (.sl a 0 (s.o.length + b.length) (g + 1)) τ)),WrV.set hn a1 (iF h0') ⟨g + 1,τ2,ob',hτ2,by simp,setAt h3,w1⟩,_,rfl,?_⟩
  have ht:b.take b.length = b:=List.take_length
  have hz:jo (.pb b) 0 b.length = some (.pb b):=by simp [jo]
  simp only [fM,sH] at h0 h0' ⊢
  generalize upd E a (some ob') = E1 at *
  generalize s.o.length + b.length = N2 at *
  generalize s.o.length = N at *
  generalize hL:b.length = L at *
  (refine ⟨0,?_⟩;simp (maxSteps:=2000000) -implicitDefEqProofs [-getElem?_pos,go_sem,eqV,aj,h0,h0',w2,kC,bound,jo,hL,ht,hz])
theorem Oc (s:Ws) (x:Int):s.o.length≤(dZ s x).o.length:=by
 unfold dZ
 simp only [List.length_set]
 split <;> simp
theorem uY (s:Ws) (x:Int):∀ n,s.o.length≤(cu s x n).o.length
 | 0=>Nat.le_refl _
 | n + 1=>Nat.le_trans (uY s x n) (Oc _ _)
theorem Gv {m:Nat} (hb:b.length≤65535):∃ code,Try.f13.body = some code∧au (nY fun fr E=>∃ a g ob,aI fr 2 = .sl a 0 (gV b).length g∧E[a]? = some (some ob)∧Rw (.pb (gV b)) g ob) X (evT X) 13 m code [(0,.ro c (.pb b) 1)] []:=by
 refine ⟨_,rfl,?_⟩
 apply au.seq (fr':=[(0,.ro c (.pb b) 1)]) (H':=[some (⟨.pb [],0,none,0,true,false,0⟩:AM.Obj)])
 ·(refine ⟨0,?_⟩;simp (maxSteps:=2000000) -implicitDefEqProofs [-getElem?_pos,go_sem,eqV,aj,aC,rowOf,UL])
 apply au.seq (fr':=[(0,.ro c (.pb b) 1),(3,.ptr 1 0 0 0)]) (H':=[some (⟨.pb [],0,none,0,true,false,0⟩:AM.Obj),some (fM ⟨0,[]⟩ (.ro 0 .pn 0) 0)])
 ·simp only [fM]
  (refine ⟨0,?_⟩;simp (maxSteps:=2000000) -implicitDefEqProofs [-getElem?_pos,go_sem,eqV,aj,ad2,aC])
 have hV:WrV 0 [some (⟨.pb [],0,none,0,true,false,0⟩:AM.Obj),some (fM ⟨0,[]⟩ (.ro 0 .pn 0) 0)] 1 none ⟨0,[]⟩:=⟨⟨_,0,.inl rfl,rfl,rfl,0,.inl rfl,rfl⟩,fun a h=>by cases h⟩
 generalize [some (⟨.pb [],0,none,0,true,false,0⟩:AM.Obj),some (fM ⟨0,[]⟩ (.ro 0 .pn 0) 0)] = E0 at *
 have hI:(b.length:Int)≤65535:=by omega
 refine au.blk ?_ (fun o ho=>by rw [ho.1];simp)
 refine au.lJ (I:=fun k fr E=>k = 0∧fr = [(0,.ro c (.pb b) 1),(3,.ptr 1 0 0 0)]∧E = E0) ?_ (k:=0) ⟨rfl,rfl,rfl⟩
 rintro k fr E ⟨rfl,rfl,rfl⟩
 suffices hT:au (nY fun fr E=>∃ a g ob,aI fr 2 = .sl a 0 (gV b).length g∧E[a]? = some (some ob)∧Rw (.pb (gV b)) g ob) X (evT X) 13 m _ [(0,.ro c (.pb b) 1),(3,.ptr 1 0 0 0)] E from hT.mono fun o ho=>.inr ⟨by rw [ho.1];simp,ho⟩
 refine au.blk ?_ (fun o ho=>by rw [ho.1];simp)
 apply au.seq (fr':=[(0,.ro c (.pb b) 1),(3,.ptr 1 0 0 0),(4,.int .i64 (b.length:Nat))]) (H':=E)
 ·have hI2:¬ (65535:Int) < (b.length:Int):=by omega
  have hI3:¬ 65535 < b.length:=by omega
  generalize hL:b.length = L at *
  (refine ⟨0,?_⟩;simp (maxSteps:=2000000) -implicitDefEqProofs [-getElem?_pos,go_sem,eqV,aj,lN,aC,hI,hI2,hI3,hL])
 apply au.seq (fr':=[(0,.ro c (.pb b) 1),(3,.ptr 1 0 0 0),(4,.int .i64 (b.length:Nat)),(5,.int .i64 0)]) (H':=E)
 ·generalize hL:b.length = L at *
  (refine ⟨0,?_⟩;simp (maxSteps:=2000000) -implicitDefEqProofs [-getElem?_pos,go_sem,eqV,aj,aC])
 apply au.assoc
 apply au.seq (fr':=[(0,.ro c (.pb b) 1),(3,.ptr 1 0 0 0),(4,.int .i64 (b.length:Nat)),(5,.int .i64 0),(14,.bool true)]) (H':=E)
 ·generalize hL:b.length = L at *
  (refine ⟨0,?_⟩;simp (maxSteps:=2000000) -implicitDefEqProofs [-getElem?_pos,go_sem,eqV,aj,hL])
 apply au.seq (fr':=sH c b) (H':=E)
 ·refine Run.cond (d:=true) (by simp [aK,aI]) ?_
  simp only [sH]
  generalize hL:b.length = L at *
  (refine ⟨0,?_⟩;simp (maxSteps:=2000000) -implicitDefEqProofs [-getElem?_pos,go_sem,eqV,aj,aC])
 obtain ⟨E1,oa1,g1,g2,g3⟩:=mQ (x:=1) (I:=3) (n:=3) rfl hV rfl (by simp) (by omega)
 apply au.seq (fr':=sH c b) (H':=E1)
 ·simp only [sH]
  generalize hL:b.length = L at *
  (refine ⟨0,?_⟩;simp (maxSteps:=2000000) -implicitDefEqProofs [-getElem?_pos,go_sem,eqV,aj,g1])
 have ho1:(cu ⟨0,[]⟩ 1 3).o = [1]:=by rw [f13]
 obtain ⟨E2,hV2,hr7⟩:=Xb (m:=m) (c:=c) (b:=b) g2 (by rw [ho1];simp) (by rw [ho1];simp)
 apply au.seq (piece hr7 _ rfl)
 have e8:(cu ⟨0,[]⟩ 1 3).o.length * 8 = 8:=by rw [ho1];rfl
 rw [e8] at hV2
 have hok2:iq ⟨8,(cu ⟨0,[]⟩ 1 3).o⟩:=by unfold iq;rw [ho1];rfl
 obtain ⟨E3,oa3,g4,g5,g6⟩:=mQ (x:=(b.length:Nat)) (I:=16) (n:=16) rfl hV2 hok2 (by simp) (by omega)
 have k3:=bT (x:=(b.length:Nat)) hok2 16
 apply au.seq (fr':=sH c b) (H':=E3)
 ·simp only [sH]
  generalize hL:b.length = L at *
  (refine ⟨0,?_⟩;simp (maxSteps:=2000000) -implicitDefEqProofs [-getElem?_pos,go_sem,eqV,aj,g4])
 obtain ⟨E4,oa4,g7,g8,g9⟩:=mQ (x:=-(b.length:Int) - 1) (I:=16) (n:=16) rfl g5 k3.1 (by rw [k3.2];simp) (by omega)
 have k4:=bT (x:=-(b.length:Int) - 1) k3.1 16
 apply au.seq (fr':=sH c b) (H':=E4)
 ·simp only [sH]
  have wx:IntKind.i64.wrap (-(b.length:Int) - 1) = -(b.length:Int) - 1:=by rw [wrap_i64 (by omega) (by omega)]
  have wx2:IntKind.i64.wrap (-1 - (b.length:Int)) = -(b.length:Int) - 1:=by rw [wrap_i64 (by omega) (by omega)];omega
  have wn:=Xa hb
  simp only [go_sem] at wn
  generalize hL:b.length = L at *
  (refine ⟨0,?_⟩;simp (maxSteps:=2000000) -implicitDefEqProofs [-getElem?_pos,go_sem,eqV,aj,g7,wn])
 have Xc:1≤(xJ b).o.length:=by
  have m1:=uY ⟨8,(cu ⟨0,[]⟩ 1 3).o⟩ (b.length:Nat) 16
  have m2:=uY (cu ⟨8,(cu ⟨0,[]⟩ 1 3).o⟩ (b.length:Nat) 16) (-(b.length:Int) - 1) 16
  have m0:(cu ⟨0,[]⟩ 1 3).o.length = 1:=by rw [ho1];rfl
  unfold xJ
  simp only at m1 m2
  omega
 have hk5:(xJ b).o.length = 5:=by
  have:=k4.1
  unfold iq at this
  unfold xJ
  rw [this,k4.2,k3.2]
  rfl
 have hne:(xJ b).o ≠ []:=fun e=>by rw [e] at Xc;simp at Xc
 have g8':WrV 0 E4 1 oa4 (xJ b):=g8
 obtain ⟨E5,hV5,ad3⟩:=UN (m:=m) (c:=c) (b:=b) g8' hne (by omega) hb
 apply au.seq (piece ad3 _ rfl)
 obtain ⟨E6,hV6,ad4⟩:=UM (m:=m) (c:=c) (b:=b) hV5 (by simp [hne]) (by simp;omega)
 apply au.seq (piece ad4 _ rfl)
 simp only at hV6
 have FB:∃ v,∃ code,((Try.f13.body).bind (aS [1,1,0,0,0,1,1,1,1,1,1,1,1,1,0])) = some code∧Run X (evT X) 13 m code (sH c b) E6 ⟨.normal,[(0,v),(3,.ptr 1 0 0 0),(5,.int .i64 1)],E6⟩:=by
  refine ⟨.ro (if c = 0 then 0 else c) (.pb []) 1,_,rfl,?_⟩
  have hd:b.drop b.length = []:=List.drop_of_length_le (Nat.le_refl _)
  simp only [sH]
  generalize hL:b.length = L at *
  (refine ⟨0,?_⟩;simp (maxSteps:=2000000) -implicitDefEqProofs [-getElem?_pos,go_sem,eqV,aj,kC,bound,jo,hL,hd,aC])
 obtain ⟨v12,FB⟩:=FB
 apply au.seq (piece FB _ rfl)
 apply au.seq (fr':=[(0,v12),(3,.ptr 1 0 0 0),(58,.bool true)]) (H':=E6)
 ·(refine ⟨0,?_⟩;simp (maxSteps:=2000000) -implicitDefEqProofs [-getElem?_pos,go_sem,eqV,aj])
 refine au.P8 (by simp [aK,aI]) ?_
 obtain ⟨⟨vo,τ,a1,h0,ho⟩,hn⟩:=id hV6
 cases oa4 with
 | none=>exact absurd ho.1 (by simp [hne])
 | some a =>
  obtain ⟨g,τ2,ob,hτ2,rfl,h3,h4⟩:=ho
  have ht:τ2 = 0:=hτ2.elim id id
  have hst:(xJ b).o ++ b = gV b:=rfl
  simp only [hst] at h0 h3 h4
  refine au.of (o:=⟨.ret,[(2,.sl a 0 (gV b).length g)],E6⟩) ?_ ⟨rfl,a,g,ob,rfl,h3,⟨h4.p,h4.g,h4.row,h4.ids,by rw [h4.tg,ht]⟩⟩
  refine ⟨0,?_⟩
  simp only [fM] at h0
  generalize (gV b).length = N at *
  simp (maxSteps:=2000000) -implicitDefEqProofs [-getElem?_pos,go_sem,eqV,aj,h0,aC]
theorem xK {H:AM.Heap} {a:AV} (ha:iD H a = some (.pb b)) (hb:b.length≤65535):∃ ob,Rw (.pb (gV b)) 0 ob∧evT X 13 [a] H = some (.sl H.length 0 (gV b).length 0,H ++ [some ob]):=by
 obtain ⟨c,x,hx⟩:=fJ (C:=X) (f:=13) (i:=0) rfl ha (dQ 1)
 obtain ⟨code,hc,⟨out,⟨ho,a2,g,ob,h2,h4,hw⟩,hrun⟩⟩:=Gv (m:=0) (c:=c) hb
 obtain ⟨ob',q1,q2⟩:=Ev1.Fq (C:=X) (H:=H) (bJ X) (n:=(gV b).length) (l:=gV b) (rest:=[]) Try.func13 hc hx rfl (by simp [dJ]) rfl rfl rfl (by
  rw [WH]
  refine ⟨out,⟨ho,a2,g,ob,?_,h4,hw⟩,hrun⟩
  show bf X out.fr out.H [.tmp 2] = _
  simp [bf,h2])
 exact ⟨ob',q1,eH q2⟩
end
end Go.Proofs.Yteblpjhkgdpchaa
namespace Go.Proofs.Yteblpjhkgdpchaa
open Go.AM
def Xd (x:Pc):Px:=⟨(x.len:Nat),(x.dist:Nat),x.byte⟩
theorem P9 (L:List Pc):(L.map Xd).map pxR = L.map pcR:=by
 rw [List.map_map]
 rfl
def kK (b:List UInt8):List Px:=(nU b b.length [] 0).map Xd
def mJ (b:List UInt8):List UInt8:=if (gV b).length < (iT (kK b)).1.length then gV b else (iT (kK b)).1
theorem y5 (b:List UInt8):∀ (f:Nat) (M:Pls) (p:Nat),(nU b f M p).length≤f
 | 0,_,_=>Nat.le_refl _
 | f + 1,M,p=>by
  unfold nU
  split
  ·have:=y5 b f (rG b M p (max 1 (jl b M p).len)) (p + max 1 (jl b M p).len)
   simp
   omega
  ·simp
theorem Gw {H:AM.Heap} {o g es:Nat} {ob:AM.Obj} {l:List AV} (ho:H[o]? = some (some ob)) (hw:Rw (.pr es l) g ob):iD H (.sl o 0 l.length g) = some (.pr es l):=by
 simp [iD,live,ho,hw.g,hw.ids,hw.p,jo]
section
variable {c:Nat} {b:List UInt8}
theorem Gx {m:Nat} (hb:b.length≤1400):∃ code,Try.f12.body = some code∧au (nY fun fr E=>∃ a g ob,aI fr 2 = .sl a 0 (mJ b).length g∧E[a]? = some (some ob)∧Rw (.pb (mJ b)) g ob) X (evT X) 12 m code [(0,.ro c (.pb b) 1)] []:=by
 refine ⟨_,rfl,?_⟩
 apply au.seq (fr':=[(0,.ro c (.pb b) 1)]) (H':=[some (⟨.pb [],0,none,0,true,false,0⟩:AM.Obj)])
 ·(refine ⟨0,?_⟩;simp (maxSteps:=2000000) -implicitDefEqProofs [-getElem?_pos,go_sem,eqV,aj,aC,rowOf,UL])
 obtain ⟨ob1,w1,e1⟩:=Ef (H:=[some (⟨.pb [],0,none,0,true,false,0⟩:AM.Obj)]) (a:=.ro c (.pb b) 1) (b:=b) rfl hb
 have hlen:=y5 b b.length [] 0
 obtain ⟨ob2,w2,e2⟩:=Ob (H:=[some (⟨.pb [],0,none,0,true,false,0⟩:AM.Obj),some ob1]) (a:=.sl 1 0 (nU b b.length [] 0).length 0) (l:=kK b) (by
  unfold kK
  rw [P9]
  have:=Gw (H:=[some (⟨.pb [],0,none,0,true,false,0⟩:AM.Obj),some ob1]) (o:=1) rfl w1
  rwa [List.length_map] at this) (by unfold kK;rw [List.length_map];omega)
 obtain ⟨ob3,w3,e3⟩:=xK (H:=[some (⟨.pb [],0,none,0,true,false,0⟩:AM.Obj),some ob1,some ob2]) (a:=.ro c (.pb b) 1) (b:=b) rfl (by omega)
 simp only [List.length_cons,List.length_nil,List.cons_append,List.nil_append] at e1 e2 e3
 unfold mJ
 have g2:=w2.g;have g3:=w3.g
 generalize hr0:some (⟨.pb [],0,none,0,true,false,0⟩:AM.Obj) = r0 at *
 apply au.seq (fr':=[(0,.ro c (.pb b) 1),(3,.sl 2 0 (iT (kK b)).1.length 0)]) (H':=[r0,some ob1,some ob2])
 ·generalize (nU b b.length [] 0).length = N1 at *
  generalize (iT (kK b)).1.length = N2 at *
  generalize (iT (kK b)).2 = er at *
  (refine ⟨0,?_⟩;simp (maxSteps:=2000000) -implicitDefEqProofs [-getElem?_pos,go_sem,eqV,aj,e1,e2,aC])
 apply au.assoc
 apply au.seq (fr':=[(3,.sl 2 0 (iT (kK b)).1.length 0),(5,.sl 3 0 (gV b).length 0)]) (H':=[r0,some ob1,some ob2,some ob3])
 ·generalize (iT (kK b)).1.length = N2 at *
  generalize (gV b).length = N3 at *
  (refine ⟨0,?_⟩;simp (maxSteps:=2000000) -implicitDefEqProofs [-getElem?_pos,go_sem,eqV,aj,e3,aC])
 apply au.assoc
 by_cases hlt:(gV b).length < (iT (kK b)).1.length
 ·rw [if_pos hlt]
  have hI:((gV b).length:Int) < ((iT (kK b)).1.length:Int):=by omega
  refine au.of (o:=⟨.ret,[(2,.sl 3 0 (gV b).length 0)],[r0,some ob1,some ob2,some ob3]⟩) ?_ ⟨rfl,3,0,ob3,rfl,rfl,w3⟩
  generalize (iT (kK b)).1.length = N2 at *
  generalize (gV b).length = N3 at *
  apply Run.seq (fr':=[(3,.sl 2 0 N2 0),(5,.sl 3 0 N3 0),(18,.bool true)]) (H':=[r0,some ob1,some ob2,some ob3])
  ·(refine ⟨0,?_⟩;simp (maxSteps:=2000000) -implicitDefEqProofs [-getElem?_pos,go_sem,eqV,aj,g2,g3,hI,hlt])
  ·refine ⟨0,?_⟩
   simp (maxSteps:=2000000) -implicitDefEqProofs [-getElem?_pos,go_sem,eqV,aj,aC]
 ·rw [if_neg hlt]
  have hI:¬ ((gV b).length:Int) < ((iT (kK b)).1.length:Int):=by omega
  refine au.of (o:=⟨.ret,[(2,.sl 2 0 (iT (kK b)).1.length 0)],[r0,some ob1,some ob2,some ob3]⟩) ?_ ⟨rfl,2,0,ob2,rfl,rfl,w2⟩
  generalize (iT (kK b)).1.length = N2 at *
  generalize (gV b).length = N3 at *
  apply Run.seq (fr':=[(3,.sl 2 0 N2 0),(5,.sl 3 0 N3 0),(18,.bool false)]) (H':=[r0,some ob1,some ob2,some ob3])
  ·(refine ⟨0,?_⟩;simp (maxSteps:=2000000) -implicitDefEqProofs [-getElem?_pos,go_sem,eqV,aj,g2,g3,hI,hlt])
  ·refine ⟨0,?_⟩
   simp (maxSteps:=2000000) -implicitDefEqProofs [-getElem?_pos,go_sem,eqV,aj,aC]
theorem Dq {H:AM.Heap} {a:AV} (ha:iD H a = some (.pb b)) (hb:b.length≤1400):∃ ob,Rw (.pb (mJ b)) 0 ob∧evT X 12 [a] H = some (.sl H.length 0 (mJ b).length 0,H ++ [some ob]):=by
 obtain ⟨c,x,hx⟩:=fJ (C:=X) (f:=12) (i:=0) rfl ha (dQ 1)
 obtain ⟨code,hc,⟨out,⟨ho,a2,g,ob,h2,h4,hw⟩,hrun⟩⟩:=Gx (m:=0) (c:=c) hb
 obtain ⟨ob',q1,q2⟩:=Ev1.Fq (C:=X) (H:=H) (bJ X) (n:=(mJ b).length) (l:=mJ b) (rest:=[]) Try.func12 hc hx rfl (by simp [dJ]) rfl rfl rfl (by
  rw [WG]
  refine ⟨out,⟨ho,a2,g,ob,?_,h4,hw⟩,hrun⟩
  show bf X out.fr out.H [.tmp 2] = _
  simp [bf,h2])
 exact ⟨ob',q1,eH q2⟩
end
end Go.Proofs.Yteblpjhkgdpchaa
namespace Go.Proofs.Yteblpjhkgdpchaa
open Go.AM
theorem Gd.one:Gd ⟨8,[1]⟩:=⟨rfl,fun i hi=>by
 unfold mV
 have:1≤i / 8:=by have hi':8≤i:=hi;omega
 obtain ⟨q,hq⟩:∃ q,i / 8 = q + 1:=⟨i / 8 - 1,by omega⟩
 simp only [hq]
 simp⟩
theorem KO {b:List UInt8}:Gd (xJ b)∧(xJ b).k = 40∧(xJ b).o.length = 5:=by
 unfold xJ
 rw [f13]
 obtain ⟨a1,_,_⟩:=qU (x:=(b.length:Nat)) Gd.one 16
 obtain ⟨a2,_,_⟩:=qU (x:=-(b.length:Int) - 1) a1 16
 have k1:=(bT (x:=(b.length:Nat)) Gd.one.ok 16).2
 have k2:=(bT (x:=-(b.length:Int) - 1) a1.ok 16).2
 have hk:(cu (cu ⟨8,[1]⟩ (b.length:Nat) 16) (-(b.length:Int) - 1) 16).k = 40:=by rw [k2,k1]
 have:=a2.ok
 unfold iq at this
 exact ⟨a2,hk,by rw [this,hk]⟩
theorem Agr.app {s:Ws} (h:iq s) (r:List UInt8):Agr (s.o ++ r) s:=by
 unfold iq at h
 refine ⟨by rw [List.length_append];omega,fun i hi=>?_⟩
 unfold mV
 rw [List.getD_eq_getElem?_getD,List.getElem?_append_left (by omega),← List.getD_eq_getElem?_getD]
end Go.Proofs.Yteblpjhkgdpchaa
namespace Go.Proofs.Yteblpjhkgdpchaa
open Go.AM
def uZ (c:Nat) (l:List Int) (s:Int) (i:Nat):AM.Frame:=[(0,.ro c (.pi .i64 l) 1),(4,.int .i64 s),(5,.int .i64 (i:Nat))]
def Gy (c:Nat) (l todo:List Int) (s:Int):AM.Out :=
  if (qR todo s).2 = 0 then ⟨.exit 0,uZ c l (qR todo s).1 l.length ++ [(12,.bool false)],[]⟩ else ⟨.ret,[(2,.bool false),(3,.int .i64 2)],[]⟩
theorem MH (c:Nat) (l todo:List Int) (s:Int):(Gy c l todo s).ex ≠ .normal:=by
  unfold Gy;split <;> simp
theorem Jp (c:Nat) (l:List Int) (h63:l.length < 9223372036854775808):∃ code,Try.f54.body = some code ∧
    Run X (evT X) 54 0 code [(0,.ro c (.pi .i64 l) 1)] [] ⟨.ret,[(2,.bool (jG l).1),(3,.int .i64 (jG l).2)],[]⟩:=by
  refine ⟨_,rfl,?_⟩
  by_cases hl:320 < (l.length:Int)
  · simp only [jG,hl,if_true]
    refine ⟨0,?_⟩
    simp (maxSteps:=2000000) -implicitDefEqProofs [-getElem?_pos,go_sem,eqV,aj,hl]
  · simp only [jG,hl,if_false]
    apply Run.seq
    · (refine ⟨0,?_⟩;conv=>lhs;simp (maxSteps:=2000000) -implicitDefEqProofs [-getElem?_pos,go_sem,eqV,aj])
    apply Run.seq
    · (refine ⟨0,?_⟩;conv=>lhs;simp (maxSteps:=2000000) -implicitDefEqProofs [-getElem?_pos,go_sem,eqV,aj,hl])
    apply Run.seq
    · (refine ⟨0,?_⟩;conv=>lhs;simp (maxSteps:=2000000) -implicitDefEqProofs [-getElem?_pos,go_sem,eqV,aj])
    apply Run.seq' (o:=jK 0 (Gy c l l 0))
    · apply Run.seq (fr':=uZ c l 0 0) (H':=[])
      · (refine ⟨0,?_⟩;simp (maxSteps:=2000000) -implicitDefEqProofs [-getElem?_pos,go_sem,eqV,aj,uZ])
      · apply Run.block'
        refine Run.lq (σ:=Int × List Int × List Int) (fun t=>t.2.1 ++ t.2.2 = l) (fun t=>uZ c l t.1 t.2.1.length) (fun _=>[]) (fun t=>Gy c l t.2.2 t.1) (fun t=>t.2.2.length) ?_ (0,[],l) rfl
        rintro ⟨s,done,todo⟩ hd
        simp only at hd ⊢
        cases todo with
        | nil =>
          right
          have hlen:done.length = l.length:=by rw [← hd];simp
          refine ⟨?_,MH c l _ s⟩
          simp only [Gy,qR,if_true]
          apply Run.bH
          · (refine ⟨0,?_⟩;simp (maxSteps:=2000000) -implicitDefEqProofs [-getElem?_pos,go_sem,eqV,aj,hlen,uZ])
          · simp
        | cons x todo =>
          have hlt:done.length < l.length:=by rw [← hd];simp
          have hget:l[done.length]? = some x:=by rw [← hd];simp
          have jB:(done.length:Int) < (l.length:Int):=by omega
          by_cases hx:0≤x∧x≤15
          · left
            refine ⟨((if 0 < x then IntKind.i64.wrap (s + IntKind.i64.wrap (2 ^ (min (15 - x).toNat 64))) else s),done ++ [x],todo),by simpa using hd,?_,?_,by simp⟩
            · have hx1:¬ x < 0:=by omega
              have hx2:¬ 15 < x:=by omega
              have e:IntKind.i64.wrap ((done.length:Int) + 1) = (done.length:Int) + 1:=wrap_i64 (by omega) (by omega)
              have e1:IntKind.i64.wrap (15 - x) = 15 - x:=wrap_i64 (by omega) (by omega)
              have e2:IntKind.u64.wrap (15 - x) = 15 - x:=wrap_u64 (by omega) (by omega)
              have e3:¬ (15 - x < 0):=by omega
              apply Run.seq
              · (refine ⟨0,?_⟩;conv=>lhs;simp (maxSteps:=2000000) -implicitDefEqProofs [-getElem?_pos,go_sem,eqV,aj,jB,uZ])
              by_cases hx0:0 < x
              · apply Run.seq
                · (refine ⟨0,?_⟩;conv=>lhs;simp (maxSteps:=2000000) -implicitDefEqProofs [-getElem?_pos,go_sem,eqV,aj,hget,hlt,hx1,hx2,hx0,e1,e2,e3,IntKind.bits])
                · (refine ⟨0,?_⟩;simp (maxSteps:=2000000) -implicitDefEqProofs [-getElem?_pos,go_sem,eqV,aj,e,uZ,hx0])
              · apply Run.seq
                · (refine ⟨0,?_⟩;conv=>lhs;simp (maxSteps:=2000000) -implicitDefEqProofs [-getElem?_pos,go_sem,eqV,aj,hget,hlt,hx1,hx2,hx0])
                · (refine ⟨0,?_⟩;simp (maxSteps:=2000000) -implicitDefEqProofs [-getElem?_pos,go_sem,eqV,aj,e,uZ,hx0])
            · simp [Gy,qR,hx]
          · right
            refine ⟨?_,MH c l _ s⟩
            simp only [Gy,qR,hx,if_false]
            apply Run.seq
            · (refine ⟨0,?_⟩;conv=>lhs;simp (maxSteps:=2000000) -implicitDefEqProofs [-getElem?_pos,go_sem,eqV,aj,jB,uZ])
            apply Run.bH
            · by_cases hx1:x < 0
              · (refine ⟨0,?_⟩;simp (maxSteps:=2000000) -implicitDefEqProofs [-getElem?_pos,go_sem,eqV,aj,hget,hlt,hx1])
              · have hx2:15 < x:=by omega
                (refine ⟨0,?_⟩;simp (maxSteps:=2000000) -implicitDefEqProofs [-getElem?_pos,go_sem,eqV,aj,hget,hlt,hx1,hx2])
            · simp
    · intro fr' H' h
      unfold Gy at h
      split at h
      · rename_i hw
        simp only [jK,if_true,Out.mk.injEq,true_and] at h
        obtain ⟨rfl,rfl⟩:=h
        simp only [hw,if_true]
        by_cases hs:32768 < (qR l 0).1
        · simp only [hs,if_true]
          refine ⟨0,?_⟩
          simp (maxSteps:=2000000) -implicitDefEqProofs [-getElem?_pos,go_sem,eqV,aj,uZ,hs]
        · simp only [hs,if_false]
          refine ⟨0,?_⟩
          simp (maxSteps:=2000000) -implicitDefEqProofs [-getElem?_pos,go_sem,eqV,aj,uZ,hs]
      · simp [jK] at h
    · intro h
      unfold Gy at h ⊢
      split at h
      · simp [jK] at h
      · rename_i hw
        rw [if_neg hw,if_neg hw]
        rfl
def UO (l:List Int):AV:=.tup [.bool (jG l).1,.int .i64 (jG l).2]
theorem Qa {H:AM.Heap} {a:AV} {l:List Int} (h:iD H a = some (.pi .i64 l)) (hl:l.length < 9223372036854775808):evT X 54 [a] H = some (UO l,H):=by
  obtain ⟨c,x,hx⟩:=fJ (C:=X) (f:=54) (i:=0) rfl h (dQ 1)
  obtain ⟨code,hb,hr⟩:=Jp c l hl
  unfold UO
  refine eH (Ev1.pR (l:=[.bool (jG l).1,.int .i64 (jG l).2]) (bJ X) Try.func54 hb hx rfl (by simp [dJ]) rfl rfl rfl ?_)
  rw [WX]
  exact ⟨_,⟨rfl,rfl⟩,hr⟩
def Gz (c:Nat) (l:List Int) (nx la:Int) (n:Nat):AM.Frame:=[(0,.ro c (.pi .i64 l) 1),(6,.sl 1 0 l.length 0),(7,.int .i64 nx),(8,.int .i64 la),(9,.int .i64 (n:Nat))]
def tN (c:Nat) (l:List Int) (nx la:Int) (n i:Nat):AM.Frame:=[(0,.ro c (.pi .i64 l) 1),(6,.sl 1 0 l.length 0),(7,.int .i64 nx),(8,.int .i64 la),(9,.int .i64 (n:Nat)),(10,.int .i64 (i:Nat))]
def xM (c:Nat) (l:List Int) (i:Nat):AM.Frame:=[(0,.ro c (.pi .i64 l) 1),(6,.sl 1 0 l.length 0),(11,.int .i64 (i:Nat))]
theorem Jq (c:Nat) (l:List Int) (he:(jG l).2 = 0) (aak:l.length≤320):∃ code,Try.f38.body = some code ∧
    Run X (evT X) 38 0 code [(0,.ro c (.pi .i64 l) 1)] [] ⟨.ret,[(2,.sl 1 0 l.length 0),(3,.int .i64 0)],[jH,dK l.length (rJ l)]⟩:=by
  have h63:l.length < 9223372036854775808:=by omega
  have hm1:(l.length:Int)≤9223372036854775807:=by omega
  have hm2:8 * (l.length:Int)≤140737488355328:=by omega
  have hT:=fun H=>Qa (H:=H) (a:=.ro c (.pi .i64 l) 1) rfl h63
  unfold UO at hT
  have hu:∀ n,¬ (IntKind.u64.wrap n < 0):=fun n=>by have:=u64_nonneg n;omega
  unfold rJ
  generalize hK:(15:Nat) = K
  refine ⟨_,rfl,?_⟩
  apply Run.seq
  · (refine ⟨0,?_⟩;conv=>lhs;simp (maxSteps:=2000000) -implicitDefEqProofs [-getElem?_pos,go_sem,eqV,aj,rowOf,dB])
  apply Run.seq
  · (refine ⟨0,?_⟩;conv=>lhs;simp (maxSteps:=2000000) -implicitDefEqProofs [-getElem?_pos,go_sem,eqV,aj,hT,he])
  apply Run.seq
  · (refine ⟨0,?_⟩;conv=>lhs;simp (maxSteps:=2000000) -implicitDefEqProofs [-getElem?_pos,go_sem,eqV,aj])
  apply Run.seq (fr':=[(0,.ro c (.pi .i64 l) 1),(6,.sl 1 0 l.length 0)]) (H':=[jH,dK l.length (List.replicate l.length 0)])
  · (refine ⟨0,?_⟩;simp (maxSteps:=2000000) -implicitDefEqProofs [-getElem?_pos,go_sem,eqV,aj,fB,jm,eF,scalars,aT,ids,bW,rowOf,hm1,hm2,jH,dK])
  apply Run.seq
  · (refine ⟨0,?_⟩;conv=>lhs;simp (maxSteps:=2000000) -implicitDefEqProofs [-getElem?_pos,go_sem,eqV,aj])
  have hlen0:(List.replicate l.length (0:Int)).length = l.length:=by simp
  generalize List.replicate l.length (0:Int) = o0 at hlen0 ⊢
  have hol:=H6 l K 1 0 0 o0
  apply Run.seq (fr':=Gz c l (wV l K 1 0 0 o0).1 (wV l K 1 0 0 o0).2.1 16 ++ [(24,.bool false)]) (H':=[jH,dK l.length (wV l K 1 0 0 o0).2.2])
  · apply Run.seq (fr':=Gz c l 0 0 1) (H':=[jH,dK l.length o0])
    · (refine ⟨0,?_⟩;simp (maxSteps:=2000000) -implicitDefEqProofs [-getElem?_pos,go_sem,eqV,aj,Gz])
    · apply Run.fV
      refine Run.lq (σ:=Nat × Nat × Int × Int × List Int) (fun t=>t.1 + t.2.1 = 16∧t.2.2.2.2.length = l.length) (fun t=>Gz c l t.2.2.1 t.2.2.2.1 t.2.1) (fun t=>[jH,dK l.length t.2.2.2.2])
        (fun t=>⟨.exit 0,Gz c l (wV l t.1 t.2.1 t.2.2.1 t.2.2.2.1 t.2.2.2.2).1 (wV l t.1 t.2.1 t.2.2.1 t.2.2.2.1 t.2.2.2.2).2.1 16 ++ [(24,.bool false)],[jH,dK l.length (wV l t.1 t.2.1 t.2.2.1 t.2.2.2.1 t.2.2.2.2).2.2]⟩) (fun t=>t.1) ?_ (K,1,0,0,o0) ⟨show K + 1 = 16 by omega,hlen0⟩
      rintro ⟨k,n,nx,la,o⟩ ⟨hk,ho⟩
      simp only at hk ho ⊢
      cases k with
      | zero =>
        right
        have:n = 16:=by omega
        subst this
        refine ⟨?_,by simp⟩
        apply Run.bH
        · (refine ⟨0,?_⟩;simp (maxSteps:=2000000) -implicitDefEqProofs [-getElem?_pos,go_sem,eqV,aj,Gz,wV])
        · simp
      | succ k =>
        left
        have ad5:(n:Int)≤15:=by omega
        refine ⟨(k,n + 1,(rIn n l 0 nx la o).1,(rIn n l 0 nx la o).2.1,(rIn n l 0 nx la o).2.2),⟨show k + (n + 1) = 16 by omega,by rw [← ho];exact Bd _ _ _ _ _ _⟩,?_,by simp only [wV],by simp⟩
        have en:IntKind.i64.wrap ((n:Int) + 1) = (n:Int) + 1:=wrap_i64 (by omega) (by omega)
        apply Run.seq
        · (refine ⟨0,?_⟩;conv=>lhs;simp (maxSteps:=2000000) -implicitDefEqProofs [-getElem?_pos,go_sem,eqV,aj,ad5,Gz])
        apply Run.seq (fr':=tN c l (rIn n l 0 nx la o).1 (rIn n l 0 nx la o).2.1 n l.length ++ [(30,.bool false)]) (H':=[jH,dK l.length (rIn n l 0 nx la o).2.2])
        · apply Run.block
          · apply Run.seq (fr':=tN c l nx la n 0) (H':=[jH,dK l.length o])
            · (refine ⟨0,?_⟩;simp (maxSteps:=2000000) -implicitDefEqProofs [-getElem?_pos,go_sem,eqV,aj,tN])
            · apply Run.fV
              refine Run.lq (σ:=List Int × List Int × Int × Int × List Int) (fun t=>t.1 ++ t.2.1 = l∧t.2.2.2.2.length = l.length) (fun t=>tN c l t.2.2.1 t.2.2.2.1 n t.1.length) (fun t=>[jH,dK l.length t.2.2.2.2])
                (fun t=>⟨.exit 2,tN c l (rIn n t.2.1 t.1.length t.2.2.1 t.2.2.2.1 t.2.2.2.2).1 (rIn n t.2.1 t.1.length t.2.2.1 t.2.2.2.1 t.2.2.2.2).2.1 n l.length ++ [(30,.bool false)],[jH,dK l.length (rIn n t.2.1 t.1.length t.2.2.1 t.2.2.2.1 t.2.2.2.2).2.2]⟩)
                (fun t=>t.2.1.length) ?_ ([],l,nx,la,o) ⟨rfl,ho⟩
              rintro ⟨done,todo,nx,la,o⟩ ⟨hd,ho⟩
              simp only at hd ho ⊢
              cases todo with
              | nil =>
                right
                have hlen:done.length = l.length:=by rw [← hd];simp
                refine ⟨?_,by simp⟩
                simp only [rIn]
                apply Run.bH
                · (refine ⟨0,?_⟩;simp (maxSteps:=2000000) -implicitDefEqProofs [-getElem?_pos,go_sem,eqV,aj,tN,hlen])
                · simp
              | cons x todo =>
                left
                have hlt:done.length < l.length:=by rw [← hd];simp
                have hget:l[done.length]? = some x:=by rw [← hd];simp
                have jB:(done.length:Int) < (l.length:Int):=by omega
                have hlo:done.length < o.length:=by omega
                have e:IntKind.i64.wrap ((done.length:Int) + 1) = (done.length:Int) + 1:=wrap_i64 (by omega) (by omega)
                by_cases hxn:x = (n:Int)
                · refine ⟨(done ++ [x],todo,wI n nx la,n,o.set done.length (wI n nx la)),⟨by simpa using hd,by simpa using ho⟩,?_,by simp [rIn,hxn],by simp⟩
                  apply Run.seq
                  · (refine ⟨0,?_⟩;conv=>lhs;simp (maxSteps:=2000000) -implicitDefEqProofs [-getElem?_pos,go_sem,eqV,aj,jB,tN])
                  by_cases hla:0 < la
                  · apply Run.seq (fr':=tN c l (wI n nx la) n n done.length) (H':=[jH,dK l.length (o.set done.length (wI n nx la))])
                    · (refine ⟨0,?_⟩;simp (maxSteps:=2000000) -implicitDefEqProofs [-getElem?_pos,go_sem,eqV,aj,hget,hlt,hxn,hla,hu,wI,tN,dK,jH,hlo,IntKind.bits])
                    · (refine ⟨0,?_⟩;simp (maxSteps:=2000000) -implicitDefEqProofs [-getElem?_pos,go_sem,eqV,aj,e,tN])
                  · apply Run.seq (fr':=tN c l (wI n nx la) n n done.length) (H':=[jH,dK l.length (o.set done.length (wI n nx la))])
                    · (refine ⟨0,?_⟩;simp (maxSteps:=2000000) -implicitDefEqProofs [-getElem?_pos,go_sem,eqV,aj,hget,hlt,hxn,hla,hu,wI,tN,dK,jH,hlo,IntKind.bits])
                    · (refine ⟨0,?_⟩;simp (maxSteps:=2000000) -implicitDefEqProofs [-getElem?_pos,go_sem,eqV,aj,e,tN])
                · have hxb:(x != (n:Int)) = true:=by simpa using hxn
                  refine ⟨(done ++ [x],todo,nx,la,o),⟨by simpa using hd,ho⟩,?_,by simp [rIn,hxn],by simp⟩
                  apply Run.seq
                  · (refine ⟨0,?_⟩;conv=>lhs;simp (maxSteps:=2000000) -implicitDefEqProofs [-getElem?_pos,go_sem,eqV,aj,jB,tN])
                  apply Run.seq (fr':=tN c l nx la n done.length ++ [(38,.bool true)]) (H':=[jH,dK l.length o])
                  · (refine ⟨0,?_⟩;simp (maxSteps:=2000000) -implicitDefEqProofs [-getElem?_pos,go_sem,eqV,aj,hget,hlt,hxn,hxb,tN,dK,jH])
                  · (refine ⟨0,?_⟩;simp (maxSteps:=2000000) -implicitDefEqProofs [-getElem?_pos,go_sem,eqV,aj,e,tN])
          · simp
        · (refine ⟨0,?_⟩;simp (maxSteps:=2000000) -implicitDefEqProofs [-getElem?_pos,go_sem,eqV,aj,en,Gz,tN])
  · generalize (wV l K 1 0 0 o0).1 = nx
    generalize (wV l K 1 0 0 o0).2.1 = la
    generalize (wV l K 1 0 0 o0).2.2 = o1 at hol ⊢
    rw [hlen0] at hol
    have hnl:=H7 l 0 o1
    apply Run.seq (fr':=xM c l l.length ++ [(56,.bool false)]) (H':=[jH,dK l.length (DV l 0 o1)])
    · apply Run.seq (fr':=xM c l 0) (H':=[jH,dK l.length o1])
      · (refine ⟨0,?_⟩;simp (maxSteps:=2000000) -implicitDefEqProofs [-getElem?_pos,go_sem,eqV,aj,Gz,xM])
      · apply Run.fV
        refine Run.lq (σ:=List Int × List Int × List Int) (fun t=>t.1 ++ t.2.1 = l∧t.2.2.length = l.length) (fun t=>xM c l t.1.length) (fun t=>[jH,dK l.length t.2.2])
          (fun t=>⟨.exit 4,xM c l l.length ++ [(56,.bool false)],[jH,dK l.length (DV t.2.1 t.1.length t.2.2)]⟩) (fun t=>t.2.1.length) ?_ ([],l,o1) ⟨rfl,hol⟩
        rintro ⟨done,todo,o⟩ ⟨hd,ho⟩
        simp only at hd ho ⊢
        cases todo with
        | nil =>
          right
          have hlen:done.length = l.length:=by rw [← hd];simp
          refine ⟨?_,by simp⟩
          simp only [DV]
          apply Run.bH
          · (refine ⟨0,?_⟩;simp (maxSteps:=2000000) -implicitDefEqProofs [-getElem?_pos,go_sem,eqV,aj,xM,hlen])
          · simp
        | cons x todo =>
          left
          have hlt:done.length < l.length:=by rw [← hd];simp
          have hget:l[done.length]? = some x:=by rw [← hd];simp
          have jB:(done.length:Int) < (l.length:Int):=by omega
          have hlo:done.length < o.length:=by omega
          have e:IntKind.i64.wrap ((done.length:Int) + 1) = (done.length:Int) + 1:=wrap_i64 (by omega) (by omega)
          by_cases hx0:x = 0
          · refine ⟨(done ++ [x],todo,o.set done.length (-1)),⟨by simpa using hd,by simpa using ho⟩,?_,by simp [DV,hx0],by simp⟩
            apply Run.seq
            · (refine ⟨0,?_⟩;conv=>lhs;simp (maxSteps:=2000000) -implicitDefEqProofs [-getElem?_pos,go_sem,eqV,aj,jB,xM])
            apply Run.seq (fr':=xM c l done.length) (H':=[jH,dK l.length (o.set done.length (-1))])
            · (refine ⟨0,?_⟩;simp (maxSteps:=2000000) -implicitDefEqProofs [-getElem?_pos,go_sem,eqV,aj,hget,hlt,hx0,xM,dK,jH,hlo])
            · (refine ⟨0,?_⟩;simp (maxSteps:=2000000) -implicitDefEqProofs [-getElem?_pos,go_sem,eqV,aj,e,xM])
          · refine ⟨(done ++ [x],todo,o),⟨by simpa using hd,ho⟩,?_,by simp [DV,hx0],by simp⟩
            apply Run.seq
            · (refine ⟨0,?_⟩;conv=>lhs;simp (maxSteps:=2000000) -implicitDefEqProofs [-getElem?_pos,go_sem,eqV,aj,jB,xM])
            apply Run.seq (fr':=xM c l done.length ++ [(63,.bool false)]) (H':=[jH,dK l.length o])
            · (refine ⟨0,?_⟩;simp (maxSteps:=2000000) -implicitDefEqProofs [-getElem?_pos,go_sem,eqV,aj,hget,hlt,hx0,xM,dK,jH])
            · (refine ⟨0,?_⟩;simp (maxSteps:=2000000) -implicitDefEqProofs [-getElem?_pos,go_sem,eqV,aj,e,xM])
    · generalize DV l 0 o1 = o2
      refine ⟨0,?_⟩
      simp (maxSteps:=2000000) -implicitDefEqProofs [-getElem?_pos,go_sem,eqV,aj,xM]
theorem Jr {H:AM.Heap} {a:AV} {l:List Int} (h:iD H a = some (.pi .i64 l)) (he:(jG l).2 = 0):evT X 38 [a] H = some (.tup [.sl H.length 0 l.length 0,.int .i64 0],H ++ [dK l.length (rJ l)]):=by
  obtain ⟨c,x,hx⟩:=fJ (C:=X) (f:=38) (i:=0) rfl h (dQ 1)
  obtain ⟨code,hb,hr⟩:=Jq c l he (H8 he).1
  have:=Ev1.fresh (H:=H) (args:=[a]) (l:=[.sl 1 0 l.length 0,.int .i64 0]) (o:=1) (g:=0) (bJ X) Try.func38 hb hx rfl (by simp [dJ]) hr (.inr rfl) rfl rfl rfl rfl rfl rfl rfl
  have:=eH this
  simpa [aW,gG,ren,dN,dK,AM.fresh] using this
end Go.Proofs.Yteblpjhkgdpchaa
