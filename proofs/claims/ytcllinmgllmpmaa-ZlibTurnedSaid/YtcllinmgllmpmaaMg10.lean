/- IX to JC: texts of this claim, one behind the other; what each shows stands at its head. -/
import Derived.Test.YtcllinmgllmpmaaAm3
import Derived.Test.YtcllinmgllmpmaaMg9
set_option linter.unusedSimpArgs false
set_option linter.unusedVariables false
set_option maxRecDepth 100000
set_option maxHeartbeats 8000000
namespace Go.Proofs.Ytcllinmgllmpmaa
open Go.AM
section
variable {c:Nat} {b:List UInt8} {mo:Int} {t:Nat} {H:AM.Heap} {o:Nat} {oa:Option Nat} {s:Is}
theorem PO {E:AM.Heap} (h:IrV c b mo t E 0 oa s):DyR t (E ++ [some nlO,some nlO]) oa (.sl E.length 0 0 0) (.sl (E.length + 1) 0 0 0) [] []:=by
 have hlt:=h.lt
 refine .inl ⟨E.length,E.length + 1,nlO,nlO,rfl,rfl,by simp,?_,⟨rfl,rfl,rfl,rfl,rfl⟩,⟨rfl,rfl,rfl,rfl,rfl⟩,by omega,by omega,by omega,fun a ha=>?_,rfl,rfl⟩
 ·rw [List.getElem?_append_right (by omega),show E.length + 1 - E.length = 1 by omega];rfl
 ·have:=hlt.2 a ha;omega
def NK:AM.Obj:=⟨.pi .i64 (List.replicate 19 0),0,some 19,1,true,false,0⟩
theorem tX.done {m0:PM (List Int × List Int)} {α:Type} {m:PM α} {f:α→List Int × List Int} {s1:Is} (h:tX b mo m s1 m0 s f) (hs:fM b mo s1) (he:s1.e ≠ 0) (x:α) (y:List Int × List Int):gB b mo m0 s s1 y:=(h s1 x (gB.stop hs he)).any he
theorem tX.dead {m0:PM (List Int × List Int)} {β:Type} {m':PM β} {g:β→List Int × List Int} {s2:Is} {y0:List Int × List Int} (h:gB b mo m0 s s2 y0) (hs:fM b mo s2) (he:s2.e ≠ 0):tX b mo m' s2 m0 s g:=by
 intro s3 y hy
 have h1:=hy.2
 rw [if_neg he] at h1
 rw [h1]
 exact h.any he
theorem JZ {m F:Nat} {E:AM.Heap} (h:IrV c b mo t E 0 oa s) (hs:fM b mo s) (hb:b.length≤100000) (he:s.e = 0) (hF:8 * b.length < F):∃ code,Try.f38.body = some code ∧
  aj (qo fun fr E'=>∃ s' oa' v1 v2 l1 l2,au fr 2 = v1∧au fr 3 = v2∧IrV c b mo t E' 0 oa' s'∧(∀ a,oa = some a→oa' = some a)∧DyR t E' oa' v1 v2 l1 l2∧gB b mo (BU b F) s s' (l1,l2)) X (evT X) 38 m code [(0,.ptr 0 0 0 0)] E:=by
 refine ⟨_,rfl,?_⟩
 apply aj.seq (fr':=[(0,.ptr 0 0 0 0)]) (H':=E ++ [some nlO,some nlO])
 ·simp only [nlO]
  (refine ⟨0,?_⟩;simp (maxSteps:=2000000) -implicitDefEqProofs [-getElem?_pos,go_sem,eqV,ah,ak,rowOf,bT])
 have hV0:IrV c b mo t (E ++ [some nlO,some nlO]) 0 oa s:=h.cat
 generalize E ++ [some nlO,some nlO] = E0 at *
 obtain ⟨E1,oa1,sa,sb,s1,nl,nd,nc,hV1,r1,r2,r3,b1,b2,b3,k1,hr1⟩:=abC (m:=m) hV0 hs hb
 apply aj.seq (piece hr1 _ rfl)
 have hC1:tX b mo (if 286 < 257 + (nl:Int)∨30 < 1 + (nd:Int) then nU 5 else dD (hcP b (yS.take (4 + nc)) (List.replicate 19 0)) (dyK b F (257 + nl) (1 + nd))) s1 (BU b F) s (fun u=>u):=by
  intro s2 y hy
  have e1:((257 + (nl:Int)) + (1 + (nd:Int))).toNat = (257 + nl) + (1 + nd):=by omega
  have e2:(257 + (nl:Int)).toNat = 257 + nl:=by omega
  have e3:(4 + (nc:Int)).toNat = 4 + nc:=by omega
  unfold BU
  refine r1.toE.bnd (r2.toE.bnd (r3.toE.bnd ?_))
  rw [e1,e2,e3]
  exact hy
 -- the limits
 have hP:∃ E2 oa2 s2,IrV c b mo t E2 0 oa2 s2∧fM b mo s2∧(∀ x,oa = some x→oa2 = some x)∧(s2.e = 0→nl + 257≤286∧nd + 1≤30)∧tX b mo (dD (hcP b (yS.take (4 + nc)) (List.replicate 19 0)) (dyK b F (257 + nl) (1 + nd))) s2 (BU b F) s (fun u=>u) ∧
   ∃ code,((Try.f38.body).bind (aI [1,1,0])) = some code∧∃ fr,Run X (evT X) 38 m code (sN (257 + nl) (1 + nd) (4 + nc)) E1 ⟨.normal,fr,E2⟩∧aZ [0,4,5,6] fr = sN (257 + nl) (1 + nd) (4 + nc):=by
  have h2:=abD (m:=m) (nl:=257 + nl) (nd:=1 + nd) (nc:=4 + nc) hV1
  by_cases hx:286 < 257 + nl∨30 < 1 + nd
  ·rw [if_pos (by omega)] at hC1
   by_cases he1:s1.e = 0
   ·obtain ⟨E2,q1,q2,q3⟩:=lI (e:=5) hV1
    have hf:(gJ s1 5).e ≠ 0:=by unfold gJ;rw [if_pos he1];simp
    refine ⟨E2,oa1,_,q2,zV r3.1,k1.same,fun h=>absurd h hf,tX.dead (hC1 _ ([],[]) (cO.bad (d:=([],[])) r3.1 (by simp)).toE) (zV r3.1) hf,_,rfl,sN (257 + nl) (1 + nd) (4 + nc),?_,by simp [sN,aZ,au]⟩
    rw [he1,show (decide (286 < 257 + nl) || decide (30 < 1 + nd)) = true by simpa using hx] at h2
    apply Run.seq (piece h2 _ rfl)
    refine Run.cond (d:=true) (by simp [sN,aF,au]) ?_
    simp only [sN]
    (refine ⟨0,?_⟩;simp (maxSteps:=2000000) -implicitDefEqProofs [-getElem?_pos,go_sem,eqV,ah,q1])
   ·refine ⟨E1,oa1,s1,hV1,r3.1,k1.same,fun h=>absurd h he1,tX.dead (hC1 _ ([],[]) (gB.stop r3.1 he1)) r3.1 he1,_,rfl,sN (257 + nl) (1 + nd) (4 + nc) ++ [(36,.bool false)],?_,by simp [sN,aZ,au]⟩
    rw [show (s1.e == 0) = false by simpa using he1,Bool.false_and] at h2
    apply Run.seq (piece h2 _ rfl)
    exact Run.cond (d:=false) (by simp [sN,aF,au]) ⟨0,rfl⟩
  ·rw [if_neg (by omega)] at hC1
   refine ⟨E1,oa1,s1,hV1,r3.1,k1.same,fun _=>by omega,hC1,_,rfl,sN (257 + nl) (1 + nd) (4 + nc) ++ [(36,.bool false)],?_,by simp [sN,aZ,au]⟩
   rw [show (decide (286 < 257 + nl) || decide (30 < 1 + nd)) = false by simpa using hx,Bool.and_false] at h2
   apply Run.seq (piece h2 _ rfl)
   exact Run.cond (d:=false) (by simp [sN,aF,au]) ⟨0,rfl⟩
 obtain ⟨E2,oa2,s2,hV2,hs2,hm2,hb2,hC2,pq,aaD,fr2,hr2,hf2⟩:=hP
 apply aj.seq (fr':=fr2) (H':=E2)
 ·exact (Option.some.inj aaD) ▸ hr2
 have g0:au fr2 0 = .ptr 0 0 0 0:=by simpa [aZ,sN,au] using congrArg (fun f=>au f 0) hf2
 have hnl:∃ x,257 + nl = x:=⟨_,rfl⟩
 have hnd:∃ x,1 + nd = x:=⟨_,rfl⟩
 have hnc:∃ x,4 + nc = x:=⟨_,rfl⟩
 obtain ⟨nl',hnl⟩:=hnl
 obtain ⟨nd',hnd⟩:=hnd
 obtain ⟨nc',hnc⟩:=hnc
 rw [hnl,hnd,hnc] at hf2 hC2
 have g4:au fr2 4 = .int .i64 (nl':Nat):=by simpa [aZ,sN,au] using congrArg (fun f=>au f 4) hf2
 have g5:au fr2 5 = .int .i64 (nd':Nat):=by simpa [aZ,sN,au] using congrArg (fun f=>au f 5) hf2
 have g6:au fr2 6 = .int .i64 (nc':Nat):=by simpa [aZ,sN,au] using congrArg (fun f=>au f 6) hf2
 -- the order,the code of lengths
 apply aj.seq (fr':=[(0,.ptr 0 0 0 0),(4,.int .i64 (nl':Nat)),(5,.int .i64 (nd':Nat)),(6,.int .i64 (nc':Nat)),(7,.ptr E2.length 0 0 0)]) (H':=E2 ++ [some (orO 0)])
 ·have hol:Mc.length = 19:=rfl
  simp only [orO]
  (refine ⟨0,?_⟩;simp (maxSteps:=2000000) -implicitDefEqProofs [-getElem?_pos,go_sem,eqV,ah,g0,g4,g5,g6,abB,yO,uM,hol])
 apply aj.seq (fr':=[(0,.ptr 0 0 0 0),(4,.int .i64 (nl':Nat)),(5,.int .i64 (nd':Nat)),(6,.int .i64 (nc':Nat)),(7,.ptr E2.length 0 0 0),(8,.sl (E2.length + 1) 0 19 0)]) (H':=E2 ++ [some (orO 0),some NK])
 ·simp only [NK]
  (refine ⟨0,?_⟩;simp (maxSteps:=2000000) -implicitDefEqProofs [-getElem?_pos,go_sem,eqV,ah,kV,oK,dZ,scalars,aA,aU,rowOf,ak])
 apply aj.assoc
 apply aj.seq (fr':=uQ E2.length (E2.length + 1) nl' nd' nc' 0) (H':=E2 ++ [some (orO 0),some NK])
 ·simp only [uQ]
  (refine ⟨0,?_⟩;simp (maxSteps:=2000000) -implicitDefEqProofs [-getElem?_pos,go_sem,eqV,ah])
 have hlt2:=hV2.lt
 have agT:IrV c b mo t (E2 ++ [some (orO 0),some NK]) 0 oa2 s2:=hV2.cat
 have hL:=XH (m:=m) (p7:=E2.length) (p8:=E2.length + 1) (nl:=nl') (nd:=nd') (nc:=nc') (F:=F) (cl0:=List.replicate 19 0) (ob0:=NK) (τ7:=0) agT hs2 hb (by simp) (by rw [List.getElem?_append_right (by omega),show E2.length + 1 - E2.length = 1 by omega];rfl) ⟨rfl,rfl,rfl,rfl,rfl⟩ (by simp) (by omega) (by omega) (by omega) (by omega) (fun a ha=>by have:=hlt2.2 a ha;omega) (fun a ha=>by have:=hlt2.2 a ha;omega) hC2
 apply aj.andThen (piece hL _ rfl)
 rintro fr E3 ⟨oa3,s3,cl,ob,rfl,hV3,hs3,hm3,hE8,hw8,hcl,ho8,hee,hC3⟩
 have agU:E2.length + 1 ≠ 0:=by omega
 generalize E2.length + 1 = p8 at *
 generalize E2.length = p7 at *
 -- is there an error?
 obtain ⟨⟨vo,τ1,τr,a1,a2,h0,hou⟩,hne0⟩:=id hV3
 simp only [bJ] at h0
 have hms:∀ x,oa = some x→oa3 = some x:=fun x hx=>hm3 x (hm2 x hx)
 by_cases he3:¬ s3.e = 0
 ·have heb:(s3.e != 0) = true:=by simpa using he3
  refine aj.of (o:=⟨.ret,[(2,.sl E3.length 0 0 0),(3,.sl (E3.length + 1) 0 0 0)],E3 ++ [some nlO,some nlO]⟩) ?_ ⟨rfl,s3,oa3,_,_,[],[],rfl,rfl,hV3.cat,hms,PO hV3,hC3.done hs3 he3 ([],[]) _⟩
  refine ⟨0,?_⟩
  simp only [uQ,nlO]
  simp (maxSteps:=2000000) -implicitDefEqProofs [-getElem?_pos,go_sem,eqV,ah,h0,heb,he3,ak,rowOf,bT]
 have he3:s3.e = 0:=Classical.not_not.1 he3
 rw [he3] at h0
 apply aj.seq (fr':=[(0,.ptr 0 0 0 0),(4,.int .i64 (nl':Nat)),(5,.int .i64 (nd':Nat)),(8,.sl p8 0 19 0),(57,.bool false)]) (H':=E3)
 ·simp only [uQ]
  (refine ⟨0,?_⟩;simp (maxSteps:=2000000) -implicitDefEqProofs [-getElem?_pos,go_sem,eqV,ah,h0])
 have hpay:dP E3 (.sl p8 0 19 0) = some (.pi .i64 cl):=by
  have:=mP (off:=0) (n:=19) hE8 hw8 (by omega)
  rwa [List.drop_zero,List.take_of_length_le (by omega)] at this
 have acJ:=Ji hpay (by omega)
 obtain ⟨w,e,hrw⟩:∃ w e,bC cl = (w,e):=⟨_,_,rfl⟩
 rw [hrw] at acJ
 apply aj.assoc
 apply aj.seq (fr':=[(0,.ptr 0 0 0 0),(4,.int .i64 (nl':Nat)),(5,.int .i64 (nd':Nat)),(8,.sl p8 0 19 0),(10,.bool w),(11,.int .i64 e)]) (H':=E3)
 ·(refine ⟨0,?_⟩;simp (maxSteps:=2000000) -implicitDefEqProofs [-getElem?_pos,go_sem,eqV,ah,acJ,ak])
 apply aj.assoc
 apply aj.seq (fr':=[(0,.ptr 0 0 0 0),(4,.int .i64 (nl':Nat)),(5,.int .i64 (nd':Nat)),(8,.sl p8 0 19 0),(68,.bool (e != 0 || !w))]) (H':=E3)
 ·by_cases h1:e = 0
  ·subst h1
   cases w <;> (refine ⟨0,?_⟩;simp (maxSteps:=2000000) -implicitDefEqProofs [-getElem?_pos,go_sem,eqV,ah])
  ·have h1b:(e != 0) = true:=by simpa using h1
   rw [h1b]
   (refine ⟨0,?_⟩;simp (maxSteps:=2000000) -implicitDefEqProofs [-getElem?_pos,go_sem,eqV,ah,h1,h1b])
 by_cases hrc:¬ (w = true∧e = 0)
 ·-- it may not be
  obtain ⟨E4,q1,q2,q3⟩:=lI (e:=5) hV3
  have hf:(gJ s3 5).e ≠ 0:=by unfold gJ;rw [if_pos he3];simp
  have hcd:(e != 0 || !w) = true:=by
   by_cases h1:e = 0
   ·subst h1
    cases w
    ·rfl
    ·exact absurd ⟨rfl,rfl⟩ hrc
   ·rw [show (e != 0) = true by simpa using h1];rfl
  rw [hcd]
  refine aj.of (o:=⟨.ret,[(2,.sl E4.length 0 0 0),(3,.sl (E4.length + 1) 0 0 0)],E4 ++ [some nlO,some nlO]⟩) ?_ ⟨rfl,_,oa3,_,_,[],[],rfl,rfl,q2.cat,hms,PO q2,hC3 _ ([],[]) ?_⟩
  ·refine ⟨0,?_⟩
   simp only [nlO]
   simp (maxSteps:=2000000) -implicitDefEqProofs [-getElem?_pos,go_sem,eqV,ah,q1,ak,rowOf,bT]
  ·unfold dyK
   rw [if_neg (by rw [hrw];intro h;exact hrc ⟨(Prod.mk.inj h).1,(Prod.mk.inj h).2⟩)]
   exact (cO.bad (d:=([],[])) hs3 (by simp)).toE
 obtain ⟨rfl,rfl⟩:w = true∧e = 0:=Classical.not_not.1 hrc
 apply aj.seq (fr':=[(0,.ptr 0 0 0 0),(4,.int .i64 (nl':Nat)),(5,.int .i64 (nd':Nat)),(8,.sl p8 0 19 0),(68,.bool false)]) (H':=E3)
 ·refine ⟨0,?_⟩
  simp (maxSteps:=2000000) -implicitDefEqProofs [-getElem?_pos,go_sem,eqV,ah]
 have hC4:tX b mo (dD (uP b cl (nl' + nd') F []) fun a=>if (Ac (a.take nl') && Ad (a.drop nl')) = true then mG (a.take nl',a.drop nl') else nU 5) s3 (BU b F) s (fun u=>u):=by
  intro s4 y hy
  refine hC3 s4 y ?_
  unfold dyK
  rw [if_pos hrw]
  exact hy
 obtain ⟨E4,oa4,s4,acc,v,la,h4,hV4,hL4,r4,k4,acK⟩:=OT (a:=.sl p8 0 19 0) (L:=cl) (N:=nl' + nd') (F:=F) hV3 hs3 hb he3 (by omega) hF (by omega) hpay (by
  intro x hx
  simp [slO] at hx
  subst hx
  exact ⟨agU,ho8⟩)
 have hC5:=hC4.step r4
 have acL:∀ x,oa = some x→oa4 = some x:=fun x hx=>k4.same x (hms x hx)
 have w1:IntKind.i64.wrap ((nl':Int) + (nd':Int)) = ((nl' + nd':Nat):Int):=by rw [wrap_i64 (by omega) (by omega)];omega
 have agV:∃ E5 v5,IrV c b mo t E5 0 oa4 s4∧(∀ a,la = some a→v5 = v∧E5 = E4)∧∃ code,((Try.f38.body).bind (aI [1,1,1,1,1,1,1,1,0])) = some code∧Run X (evT X) 38 m code [(0,.ptr 0 0 0 0),(4,.int .i64 (nl':Nat)),(5,.int .i64 (nd':Nat)),(8,.sl p8 0 19 0),(68,.bool false)] E3 ⟨.normal,[(0,.ptr 0 0 0 0),(4,.int .i64 (nl':Nat)),(12,v5)],E5⟩:=by
  cases la with
  | some a =>
   obtain ⟨g,τ,ob,_,rfl,_⟩:=hL4
   refine ⟨E4,_,hV4,fun _ _=>⟨rfl,rfl⟩,_,rfl,?_⟩
   generalize nl' + nd' = N at *
   generalize acc.length = M at *
   (refine ⟨0,?_⟩;simp (maxSteps:=2000000) -implicitDefEqProofs [-getElem?_pos,go_sem,eqV,ah,w1,h4,ak])
  | none =>
   obtain ⟨_,τ,_,rfl⟩:=hL4
   by_cases h0:τ = 0
   ·subst h0
    refine ⟨E4 ++ [some nlO],.sl E4.length 0 0 0,hV4.cat,(fun _ h=>by cases h),_,rfl,?_⟩
    generalize nl' + nd' = N at *
    simp only [nlO]
    (refine ⟨0,?_⟩;simp (maxSteps:=2000000) -implicitDefEqProofs [-getElem?_pos,go_sem,eqV,ah,w1,h4,ak,rowOf,bT])
   ·refine ⟨E4,.ro 0 .pn τ,hV4,(fun _ h=>by cases h),_,rfl,?_⟩
    generalize nl' + nd' = N at *
    (refine ⟨0,?_⟩;simp (maxSteps:=2000000) -implicitDefEqProofs [-getElem?_pos,go_sem,eqV,ah,w1,h4,ak,h0])
 obtain ⟨E5,v5,hV5,hsame,Yb⟩:=agV
 apply aj.seq (piece Yb _ rfl)
 by_cases he4:¬ s4.e = 0
 ·-- too short,or bad
  obtain ⟨⟨vo5,τ5,τr5,a5,a6,h05,agW⟩,hne5⟩:=id hV5
  simp only [bJ] at h05
  have heb:(s4.e != 0) = true:=by simpa using he4
  refine aj.of (o:=⟨.ret,[(2,.sl E5.length 0 0 0),(3,.sl (E5.length + 1) 0 0 0)],E5 ++ [some nlO,some nlO]⟩) ?_ ⟨rfl,s4,oa4,_,_,[],[],rfl,rfl,hV5.cat,acL,PO hV5,hC5.done r4.1 he4 ([],[]) _⟩
  refine ⟨0,?_⟩
  simp only [nlO]
  simp (maxSteps:=2000000) -implicitDefEqProofs [-getElem?_pos,go_sem,eqV,ah,h05,heb,he4,ak,rowOf,bT]
 have he4:s4.e = 0:=Classical.not_not.1 he4
 obtain ⟨anK,aa2⟩:nl'≤286∧nd'≤30:=by
  have:=hb2 (hee he3)
  omega
 have hal:acc.length = nl' + nd':=QF (r4.fine he4).2 (by simp)
 cases la with
 | none =>
  obtain ⟨h1,_⟩:=hL4
  rw [h1] at hal
  simp at hal
  omega
 | some a =>
  obtain ⟨g,τ,ob,hτ,rfl,ha,hw⟩:=hL4
  obtain ⟨q1,q2,q3⟩:=acK a rfl
  obtain ⟨rfl,rfl⟩:=hsame a rfl
  obtain ⟨⟨vo5,τ5,τr5,a5,a6,h05,agW⟩,hne5⟩:=id hV4
  simp only [bJ] at h05
  rw [he4] at h05
  apply aj.seq (fr':=[(0,.ptr 0 0 0 0),(4,.int .i64 (nl':Nat)),(12,.sl a 0 acc.length g),(81,.bool false)]) (H':=E5)
  ·generalize acc.length = N at *
   (refine ⟨0,?_⟩;simp (maxSteps:=2000000) -implicitDefEqProofs [-getElem?_pos,go_sem,eqV,ah,h05])
  apply aj.seq (piece (ZF (m:=m) (nd:=nd') ha hw rfl (by omega)) _ rfl)
  have hkk:acc.length - nl' = nd':=by omega
  rw [hkk]
  have hp1:∀ E,E[a]? = some (some ob)→dP E (.sl a 0 nl' g) = some (.pi .i64 (acc.take nl')):=fun E h=>by simpa using mP (off:=0) h hw (by omega)
  have hp2:∀ E,E[a]? = some (some ob)→dP E (.sl a nl' nd' g) = some (.pi .i64 (acc.drop nl')):=fun E h=>by
   have:=mP (off:=nl') (n:=nd') h hw (by omega)
   rwa [List.take_of_length_le (by simp;omega)] at this
  have hc1:=Ji (hp1 _ ha) (by rw [List.length_take];omega)
  apply aj.seq (fr':=kP a nl' nd' g ++ [(13,.bool (bC (acc.take nl')).1),(14,.int .i64 (bC (acc.take nl')).2)]) (H':=E5)
  ·generalize bC (acc.take nl') = rc at *
   simp only [kP]
   (refine ⟨0,?_⟩;simp (maxSteps:=2000000) -implicitDefEqProofs [-getElem?_pos,go_sem,eqV,ah,hc1,ak])
  have h22:=Zz (m:=m) (k:=nd') ha hw (n:=nl') (by omega) (by omega) (by omega)
  -- the first code
  have hP:∃ E6 s6,IrV c b mo t E6 0 oa4 s6∧fM b mo s6∧E6[a]? = some (some ob)∧s6 = (if Ac (acc.take nl') = true then s4 else gJ s4 5)∧∃ code,((Try.f38.body).bind (aI [1,1,1,1,1,1,1,1,1,1,1,1,0])) = some code∧∃ fr,Run X (evT X) 38 m code (kP a nl' nd' g ++ [(13,.bool (bC (acc.take nl')).1),(14,.int .i64 (bC (acc.take nl')).2)]) E5 ⟨.normal,fr,E6⟩∧aZ [0,2,3] fr = kP a nl' nd' g:=by
   cases hok:Ac (acc.take nl') with
   | true =>
    refine ⟨E5,s4,hV5,r4.1,ha,by simp,_,rfl,kP a nl' nd' g ++ [(109,.bool false)],?_,by simp [kP,aZ,au]⟩
    rw [hok] at h22
    apply Run.seq (piece h22 _ rfl)
    exact Run.cond (d:=false) (by simp [kP,aF,au]) ⟨0,rfl⟩
   | false =>
    obtain ⟨E6,g1,g2,g3⟩:=lI (e:=5) hV5
    refine ⟨E6,gJ s4 5,g2,zV r4.1,by rw [(kept g3 (eY ha) q2 q3).1];exact ha,by simp,_,rfl,kP a nl' nd' g,?_,by simp [kP,aZ,au]⟩
    rw [hok] at h22
    apply Run.seq (piece h22 _ rfl)
    refine Run.cond (d:=true) (by simp [kP,aF,au]) ?_
    simp only [kP]
    (refine ⟨0,?_⟩;simp (maxSteps:=2000000) -implicitDefEqProofs [-getElem?_pos,go_sem,eqV,ah,g1])
  obtain ⟨E6,s6,hV6,hs6,ha6,he6,akZ,aaE,fr6,hr6,hf6⟩:=hP
  apply aj.seq (fr':=fr6) (H':=E6)
  ·exact (Option.some.inj aaE) ▸ hr6
  have g0':au fr6 0 = .ptr 0 0 0 0:=by simpa [aZ,kP,au] using congrArg (fun f=>au f 0) hf6
  have g2':au fr6 2 = .sl a 0 nl' g:=by simpa [aZ,kP,au] using congrArg (fun f=>au f 2) hf6
  have g3':au fr6 3 = .sl a nl' nd' g:=by simpa [aZ,kP,au] using congrArg (fun f=>au f 3) hf6
  have hc2:=Ji (hp2 _ ha6) (by rw [List.length_drop];omega)
  apply aj.seq (fr':=kP a nl' nd' g ++ [(13,.bool (bC (acc.drop nl')).1),(14,.int .i64 (bC (acc.drop nl')).2)]) (H':=E6)
  ·generalize bC (acc.drop nl') = rc at *
   simp only [kP]
   (refine ⟨0,?_⟩;simp (maxSteps:=2000000) -implicitDefEqProofs [-getElem?_pos,go_sem,eqV,ah,g0',g2',g3',hc2,ak])
  have h25:=ZE (m:=m) ha6 hw (n:=nl') (k:=nd') (by omega)
  -- the second
  have hP2:∃ E7 s7,IrV c b mo t E7 0 oa4 s7∧E7[a]? = some (some ob)∧s7 = (if Ad (acc.drop nl') = true then s6 else gJ s6 5)∧∃ code,((Try.f38.body).bind (aI [1,1,1,1,1,1,1,1,1,1,1,1,1,1,0])) = some code∧∃ fr,Run X (evT X) 38 m code (kP a nl' nd' g ++ [(13,.bool (bC (acc.drop nl')).1),(14,.int .i64 (bC (acc.drop nl')).2)]) E6 ⟨.normal,fr,E7⟩∧aZ [2,3] fr = [(2,.sl a 0 nl' g),(3,.sl a nl' nd' g)]:=by
   cases hok:Ad (acc.drop nl') with
   | true =>
    refine ⟨E6,s6,hV6,ha6,by simp,_,rfl,kP a nl' nd' g ++ [(132,.bool false)],?_,by simp [kP,aZ,au]⟩
    rw [hok] at h25
    apply Run.seq (piece h25 _ rfl)
    exact Run.cond (d:=false) (by simp [kP,aF,au]) ⟨0,rfl⟩
   | false =>
    obtain ⟨E7,g1,g2,g3⟩:=lI (e:=5) hV6
    refine ⟨E7,gJ s6 5,g2,by rw [(kept g3 (eY ha6) q2 q3).1];exact ha6,by simp,_,rfl,[(2,.sl a 0 nl' g),(3,.sl a nl' nd' g)],?_,by simp [aZ,au]⟩
    rw [hok] at h25
    apply Run.seq (piece h25 _ rfl)
    refine Run.cond (d:=true) (by simp [kP,aF,au]) ?_
    simp only [kP]
    (refine ⟨0,?_⟩;simp (maxSteps:=2000000) -implicitDefEqProofs [-getElem?_pos,go_sem,eqV,ah,g1])
  obtain ⟨E7,s7,hV7,ha7,he7,ak0,aaF,fr7,hr7,hf7⟩:=hP2
  apply aj.seq (fr':=fr7) (H':=E7)
  ·exact (Option.some.inj aaF) ▸ hr7
  have k2':au fr7 2 = .sl a 0 nl' g:=by simpa [aZ,au] using congrArg (fun f=>au f 2) hf7
  have k3':au fr7 3 = .sl a nl' nd' g:=by simpa [aZ,au] using congrArg (fun f=>au f 3) hf7
  refine aj.of (o:=⟨.ret,[(2,.sl a 0 nl' g),(3,.sl a nl' nd' g)],E7⟩) ?_ ⟨rfl,s7,oa4,_,_,acc.take nl',acc.drop nl',rfl,rfl,hV7,acL,.inr ⟨a,nl',nd',g,τ,ob,acc,rfl,rfl,hτ,ha7,hw,q2,q3,by omega,by omega,rfl,rfl⟩,?_⟩
  ·refine ⟨0,?_⟩
   simp (maxSteps:=2000000) -implicitDefEqProofs [-getElem?_pos,go_sem,eqV,ah,k2',k3',ak]
  ·refine hC5 _ _ ?_
   rw [he7,he6]
   have hff:gJ (gJ s4 5) 5 = gJ s4 5:=by
    unfold gJ
    rw [if_pos he4]
    simp
   cases Ac (acc.take nl') <;> cases Ad (acc.drop nl')
   ·simp only [Bool.false_eq_true,if_false,Bool.and_self,hff]
    exact (cO.bad (d:=(acc.take nl',acc.drop nl')) r4.1 (by simp)).toE
   ·simp only [Bool.false_eq_true,if_false,if_true,Bool.and_true]
    exact (cO.bad (d:=(acc.take nl',acc.drop nl')) r4.1 (by simp)).toE
   ·simp only [Bool.false_eq_true,if_false,if_true,Bool.and_false]
    exact (cO.bad (d:=(acc.take nl',acc.drop nl')) r4.1 (by simp)).toE
   ·simp only [if_true,Bool.and_self]
    exact (cO.ret (d:=(acc.take nl',acc.drop nl')) r4.1 fun _=>rfl).toE
end
end Go.Proofs.Ytcllinmgllmpmaa
namespace Go.Proofs.Ytcllinmgllmpmaa
open Go.AM
section
variable {c:Nat} {b:List UInt8} {mo:Int} {t:Nat} {H:AM.Heap} {o:Nat} {oa:Option Nat} {s:Is}
def DyQ (b:List UInt8) (mo:Int) (F:Nat) (s s':Is) (w0:AV) (ps:List AV):Prop :=
 ∃ l1 l2,gB b mo (BU b F) s s' (l1,l2) ∧
  ((ps = [.pi .i64 [],.pi .i64 []]∧w0 = .tup [.sl 0 0 0 0,.sl 1 0 0 0]∧l1 = []∧l2 = []) ∨
  (∃ acc n k,ps = [.pi .i64 acc]∧w0 = .tup [.sl 0 0 n 0,.sl 0 n k 0]∧n + k = acc.length∧acc.length≤400∧l1 = acc.take n∧l2 = acc.drop n))
theorem PS {F:Nat} (h:IrV c b mo t H o oa s) (hs:fM b mo s) (hb:b.length≤100000) (he:s.e = 0) (hF:8 * b.length < F) :
  ∃ H' oa' s' v1 v2 l1 l2,evT X 38 [.ptr o 0 0 0] H = some (.tup [v1,v2],H')∧IrV c b mo t H' o oa' s'∧gB b mo (BU b F) s s' (l1,l2)∧Kpt H H' o oa oa' ∧
   dP H' v1 = some (.pi .i64 l1)∧dP H' v2 = some (.pi .i64 l2)∧l1.length≤400∧l2.length≤400∧(∀ x,x ∈ slO v1∨x ∈ slO v2→H.length≤x∧x ≠ o∧∀ y,oa' = some y→x ≠ y)∧(∃ x i n g,v1 = .sl x i n g)∧(∃ x i n g,v2 = .sl x i n g):=by
 obtain ⟨code,hc⟩:∃ code,Try.f38.body = some code:=⟨_,rfl⟩
 obtain ⟨H',oa',s',w0,ex,ps,τf,hE,hτ,hV,hR,hnew,hnd,⟨l1,l2,hrun,hw⟩,hk⟩:=BO (f:=38) (n:=2) (xs:=[]) (ys:=[]) (Q:=DyQ b mo F s)
  Try.func38 hc rfl h (fun π K hπ=>fK.nil) rfl rfl (by simp [dG]) (by
   intro m E oa1 _ _ _ hE
   obtain ⟨pq,hc2,ht⟩:=JZ (m:=m) (F:=F) hE hs hb he hF
   refine ⟨pq,hc2,?_⟩
   rw [acM]
   refine ht.mono ?_
   rintro out ⟨ho1,s',oa',v1,v2,l1,l2,g1,g2,q2,q4,q3,q6⟩
   refine ⟨.inr ho1,?_⟩
   have hne:=q2.ne
   rcases q3 with ⟨x,y,o1,o2,rfl,rfl,hx,hy,w1,w2,n1,n2,n3,n4,rfl,rfl⟩ | ⟨a,n,k,g,τ,ob,acc,rfl,rfl,hτ,ha,hw,n1,n2,n3,n4,rfl,rfl⟩
   ·refine ⟨s',oa',[.sl x 0 0 0,.sl y 0 0 0],[(x,0),(y,0)],[.pi .i64 [],.pi .i64 []],.tup [.sl 0 0 0 0,.sl 1 0 0 0],?_,q2,q4,⟨⟨0,o1,.inl rfl,hx,w1⟩,⟨0,o2,.inl rfl,hy,w2⟩,trivial⟩,?_,?_,by simp [ids,aA],by simp [ids,aA],?_,by simp [tags,aU],by simp [aO,ren,bn,eP,eU],[],[],q6,.inl ⟨rfl,rfl,rfl,rfl⟩⟩
    ·show aP X out.fr out.H [.tmp 2,.tmp 3] = _
     simp [aP,g1,g2]
    ·intro p hp
     simp at hp
     subst hp
     exact ⟨rfl,rfl⟩
    ·cases oa' with
     | none=>simp;omega
     | some z =>
      have h1:=hne z rfl
      have h2:=n4 z rfl
      simp;omega
    ·intro k hk
     simp at hk
     simp [ids,aA]
     omega
   ·refine ⟨s',oa',[.sl a 0 n g,.sl a n k g],[(a,g)],[.pi .i64 acc],.tup [.sl 0 0 n 0,.sl 0 n k 0],?_,q2,q4,⟨⟨τ,ob,hτ,ha,hw⟩,trivial⟩,?_,?_,by simp [ids,aA],by simp [ids,aA],by simp [ids,aA],by simp [tags,aU],by simp [aO,ren,bn,eP,eU],_,_,q6,.inr ⟨acc,n,k,rfl,rfl,n3,n4,rfl,rfl⟩⟩
    ·show aP X out.fr out.H [.tmp 2,.tmp 3] = _
     simp [aP,g1,g2]
    ·intro p hp
     simp at hp
     subst hp
     exact ⟨rfl,rfl⟩
    ·cases oa' with
     | none=>simp;omega
     | some z =>
      have h1:=hne z rfl
      have h2:=n2 z rfl
      simp;omega)
 rcases hw with ⟨rfl,rfl,rfl,rfl⟩ | ⟨acc,n,k,rfl,rfl,h3,h4,rfl,rfl⟩
 ·match ex,hR with
  | [(x,g),(y,g2)],hR =>
   obtain ⟨⟨τ4,ob,h4,h5,h6⟩,⟨τ5,ob2,h7,h8,h9⟩,_⟩:=hR
   refine ⟨H',oa',s',.sl x 0 0 g,.sl y 0 0 g2,[],[],by simpa [ren,bn,eP] using hE,hV,hrun,hk,?_,?_,by simp,by simp,?_,⟨_,_,_,_,rfl⟩,⟨_,_,_,_,rfl⟩⟩
   ·simpa using mP (off:=0) (n:=0) h5 h6 (by simp)
   ·simpa using mP (off:=0) (n:=0) h8 h9 (by simp)
   ·intro z hz
    have hz':z = x∨z = y:=by simpa [slO] using hz
    have hl:H.length≤z:=by
     rcases hz' with rfl | rfl
     ·exact hnew (z,g) (by simp)
     ·exact hnew (z,g2) (by simp)
    refine ⟨hl,?_,?_⟩
    ·intro e
     subst e
     rcases hz' with rfl | rfl <;> simp at hnd
    ·intro w hw e
     subst hw e
     rcases hz' with rfl | rfl <;> simp at hnd
 ·match ex,hR with
  | [(x,g)],hR =>
   obtain ⟨⟨τ4,ob,h4',h5,h6⟩,_⟩:=hR
   refine ⟨H',oa',s',.sl x 0 n g,.sl x n k g,_,_,by simpa [ren,bn,eP] using hE,hV,hrun,hk,?_,?_,by rw [List.length_take];omega,by rw [List.length_drop];omega,?_,⟨_,_,_,_,rfl⟩,⟨_,_,_,_,rfl⟩⟩
   ·simpa using mP (off:=0) (n:=n) h5 h6 (by omega)
   ·have:=mP (off:=n) (n:=k) h5 h6 (by omega)
    rwa [List.take_of_length_le (by simp;omega)] at this
   ·intro z hz
    have hz':z = x:=by simpa [slO] using hz
    subst hz'
    refine ⟨hnew (z,g) (by simp),?_,?_⟩
    ·intro e
     subst e
     simp at hnd
    ·intro w hw e
     subst hw e
     simp at hnd
end
end Go.Proofs.Ytcllinmgllmpmaa
namespace Go.Proofs.Ytcllinmgllmpmaa
open Go.AM
theorem gB.pure {α:Type} {b:List UInt8} {mo:Int} {s:Is} (g:Nat→List UInt8→α) (hs:fM b mo s):gB b mo (fun k o=>.ok (g k o) k o) s s (g s.k s.o):=by
 refine ⟨hs,?_⟩
 by_cases he:s.e = 0
 ·rw [if_pos he]
  exact ⟨by rw [← he],rfl⟩
 ·rw [if_neg he]
def bkR (kind:Int) (last:Bool) (k:Nat) (n:Int):AV:=.pc [.int .i64 kind,.bool last,.int .i64 (k:Nat),.int .i64 n]
def bkO (kind:Int) (last:Bool) (k:Nat) (n:Int):AM.Obj:=⟨bkR kind last k n,0,some 4,1,false,true,0⟩
def bkT (x:Blk):AV:=bkR x.kind x.last x.k (x.n:Nat)
def LkV (H:AM.Heap) (la:Option Nat) (v:AV) (R:List AV):Prop:=(∀ p ∈ R,ids p = []∧tags p = [])∧match la with
 | none=>R = []∧v = .ro 0 .pn 0
 | some a=>∃ g ob,v = .sl a 0 R.length g∧H[a]? = some (some ob)∧Rw (.pr 4 R) g ob
theorem LkV.keep {H H':AM.Heap} {la:Option Nat} {v:AV} {R:List AV} (h:LkV H la v R) (hk:∀ a,la = some a→H'[a]? = H[a]?):LkV H' la v R:=by
 obtain ⟨h0,h1⟩:=h
 refine ⟨h0,?_⟩
 cases la with
 | none=>exact h1
 | some a =>
  obtain ⟨g,ob,h2,h3,h4⟩:=h1
  exact ⟨g,ob,h2,by rw [hk a rfl];exact h3,h4⟩
theorem LkV.lt {H:AM.Heap} {la:Option Nat} {v:AV} {R:List AV} (h:LkV H la v R):∀ a,la = some a→a < H.length:=by
 rintro a rfl
 obtain ⟨_,g,ob,_,h3,_⟩:=h
 exact eY h3
theorem LkV.app {H:AM.Heap} {la:Option Nat} {v:AV} {R:List AV} {kind:Int} {last:Bool} {k:Nat} {n:Int} (h:LkV H la v R) (hR:R.length≤10000000):∃ v' H' la',dw X H 41 v (.ro 1 (.pr 4 [bkR kind last k n]) 0) = some (v',H')∧LkV H' la' v' (R ++ [bkR kind last k n])∧H.length≤H'.length∧(∀ j,j < H.length→la ≠ some j→H'[j]? = H[j]?)∧(∀ a,la = some a→la' = some a)∧(la = none→la' = some H.length):=by
 obtain ⟨hf,h⟩:=h
 have hf':∀ p ∈ R ++ [bkR kind last k n],ids p = []∧tags p = []:=by
  intro p hp
  rcases List.mem_append.1 hp with hp | hp
  ·exact hf p hp
  ·rw [List.mem_singleton.1 hp];exact ⟨rfl,rfl⟩
 cases la with
 | none =>
  obtain ⟨rfl,rfl⟩:=h
  refine ⟨.sl H.length 0 1 0,H ++ [some ⟨.pr 4 [bkR kind last k n],0,none,0,true,false,0⟩],some H.length,?_,⟨hf',0,⟨.pr 4 [bkR kind last k n],0,none,0,true,false,0⟩,rfl,by simp,⟨rfl,rfl,rfl,rfl,rfl⟩⟩,by simp,fun j hj _=>List.getElem?_append_left hj,fun a h=>(by cases h),fun _=>rfl⟩
  have hE:bT X 53 = .pr 4 []:=by kernel_rfl
  simp only [dw,acN,aaG,acO]
  simp [lV,pI,ah,rD,fP,rE,hE,aN,bkR,aU,tags,dO]
 | some a =>
  obtain ⟨g,ob,rfl,h3,h4⟩:=h
  obtain ⟨ob',hw',hA⟩:=MR (C:=X) (T:=41) (e:=53) (es:=4) (H:=H) (o:=a) (m:=[bkR kind last k n]) (src:=.ro 1 (.pr 4 [bkR kind last k n]) 0) (by simp) (by simp) (by omega) (by simp) (by simp) h3 h4 rfl (by simp;omega)
  refine ⟨_,_,some a,hA,⟨hf',g + 1,ob',by simp,setAt h3,hw'⟩,by simp [AM.upd],fun j hj hne=>by unfold AM.upd;rw [List.getElem?_set_ne (fun e=>hne (by rw [e]))],fun x h=>h,fun h=>by cases h⟩
section
variable {c:Nat} {b:List UInt8} {mo:Int} {t:Nat} {H:AM.Heap} {o:Nat} {oa:Option Nat} {s:Is}
theorem Kpt.PU {E E1:AM.Heap} {oa1:Option Nat} {p:Nat} {x:Option AM.Obj} (h:Kpt E E1 0 oa oa1) (hp:E.length≤p):Kpt E (AM.upd E1 p x) 0 oa oa1 where
 len:=by have:=h.len;simpa [AM.upd] using this
 same:=h.same
 new:=h.new
 rest:=fun j hj h1 h2=>by unfold AM.upd;rw [List.getElem?_set_ne (by omega)];exact h.rest j hj h1 h2
theorem Kpt.head {E r E1:AM.Heap} {oa1:Option Nat} (h:Kpt (E ++ r) E1 0 oa oa1):Kpt E E1 0 oa oa1:=(Kpt.cat r).trans h
def uw (v:AV) (p n0:Nat):AM.Frame:=[(0,.ptr 0 0 0 0),(3,v),(5,.ptr p 0 0 0),(6,.int .i64 (n0:Nat))]
theorem Yp {m F p n0 y:Nat} {v:AV} {E:AM.Heap} (h:IrV c b mo t E 0 oa s) (hs:fM b mo s) (hb:b.length≤100000) (hm:mo≤1000000) (he:s.e = 0) (hF:8 * b.length < F) (hy:y < 4) :
  ∃ E' oa' s',IrV c b mo t E' 0 oa' s'∧gB b mo (CQ b mo F (y:Nat)) s s' ()∧Kpt E E' 0 oa oa'∧∃ code,((Try.f24.body).bind (aI [1,1,0,1,0,0,1,0,1,1,1,1,1,0,1])) = some code ∧
   Run X (evT X) 24 m code (uw v p n0 ++ [(41,.int .i64 (y:Nat))]) E ⟨.normal,uw v p n0,E'⟩:=by
 have hd:y = 0∨y = 1∨y = 2∨y = 3:=by omega
 have hlt:=h.lt
 simp only [uw]
 rcases hd with rfl | rfl | rfl | rfl
 ·obtain ⟨E',oa',s',g1,g2,g3,g4⟩:=SG h hs he hb hm
  refine ⟨E',oa',s',g2,?_,g4,_,rfl,?_⟩
  ·exact g3.toE
  ·(refine ⟨0,?_⟩;simp (maxSteps:=2000000) -implicitDefEqProofs [-getElem?_pos,go_sem,eqV,ah,g1,ak])
 ·have hx:=XF E
  obtain ⟨E',oa',s',g1,g2,g3,g4⟩:=LJ (F:=F) (ll:=Aa) (dl:=yR) (a:=.sl E.length 0 288 0) (a2:=.sl (E.length + 1) 0 32 0) (h.cat (r:=[some (BR Aa),some (BR yR)])) hs hb hm hF
   (by
    have:Aa.length = 288:=rfl
    have:=mP (E:=E ++ [some (BR Aa),some (BR yR)]) (a:=E.length) (ob:=BR Aa) (off:=0) (n:=288) (acc:=Aa) (g:=0) (τ:=0) (by simp) ⟨rfl,rfl,rfl,rfl,rfl⟩ (by omega)
    rwa [List.drop_zero,List.take_of_length_le (by omega)] at this)
   (by
    intro x hx
    have:x = E.length:=by simpa [slO] using hx
    subst this
    exact ⟨by omega,fun y hy=>by have:=hlt.2 y hy;omega⟩)
   (by
    have:yR.length = 32:=rfl
    have:=mP (E:=E ++ [some (BR Aa),some (BR yR)]) (a:=E.length + 1) (ob:=BR yR) (off:=0) (n:=32) (acc:=yR) (g:=0) (τ:=0) (by simp) ⟨rfl,rfl,rfl,rfl,rfl⟩ (by omega)
    rwa [List.drop_zero,List.take_of_length_le (by omega)] at this)
   (by
    intro x hx
    have:x = E.length + 1:=by simpa [slO] using hx
    subst this
    exact ⟨by omega,fun y hy=>by have:=hlt.2 y hy;omega⟩) (by show 288 < _;omega) (by show 32 < _;omega)
  refine ⟨E',oa',s',g2,?_,g4.head,_,rfl,?_⟩
  ·exact g3.toE
  ·(refine ⟨0,?_⟩;simp (maxSteps:=2000000) -implicitDefEqProofs [-getElem?_pos,go_sem,eqV,ah,hx,g1,ak])
 ·obtain ⟨E1,oa1,s1,v1,v2,l1,l2,g1,g2,g3,g4,g5,g6,g7,g8,g9,⟨w1,w2,w3,w4,rfl⟩,w5,w6,w7,w8,rfl⟩:=PS (F:=F) h hs hb he hF
  obtain ⟨E',oa',s',k1,k2,k3,k4⟩:=LJ (F:=F) (ll:=l1) (dl:=l2) g2 g3.1 hb hm hF g5 (fun x hx=>(g9 x (.inl hx)).2) g6 (fun x hx=>(g9 x (.inr hx)).2) (by omega) (by omega)
  refine ⟨E',oa',s',k2,?_,g4.trans k4,_,rfl,?_⟩
  ·exact g3.bnd (f:=fun c=>rG b mo c.1 c.2 F) k3.toE
  ·(refine ⟨0,?_⟩;simp (maxSteps:=2000000) -implicitDefEqProofs [-getElem?_pos,go_sem,eqV,ah,g1,k1,ak])
 ·obtain ⟨E',q1,q2,q3⟩:=lI (e:=5) h
  refine ⟨E',oa,gJ s 5,q2,?_,q3,_,rfl,?_⟩
  ·exact (cO.bad (d:=()) hs (by simp)).toE
  ·(refine ⟨0,?_⟩;simp (maxSteps:=2000000) -implicitDefEqProofs [-getElem?_pos,go_sem,eqV,ah,q1,ak])
end
end Go.Proofs.Ytcllinmgllmpmaa
namespace Go.Proofs.Ytcllinmgllmpmaa
open Go.AM
section
variable {c:Nat} {b:List UInt8} {mo:Int} {t:Nat} {H:AM.Heap} {o:Nat} {oa:Option Nat} {s:Is}
theorem aaH {m p:Nat} {v:AV} {E:AM.Heap} (h:IrV c b mo t E 0 oa s):∃ code,((Try.f24.body).bind (aI [1,1,0,1,0,0,1,0,1,0])) = some code∧Run X (evT X) 24 m code [(0,.ptr 0 0 0 0),(3,v),(5,.ptr p 0 0 0)] E ⟨.normal,uw v p s.o.length,E⟩:=by
 refine ⟨_,rfl,?_⟩
 obtain ⟨⟨vo,τ1,τ,a1,a2,h0,ho⟩,hne⟩:=id h
 simp only [bJ] at h0
 simp only [uw]
 cases oa with
 | none =>
  obtain ⟨h1,τ2,hτ2,rfl⟩:=ho
  rw [h1]
  (refine ⟨0,?_⟩;simp (maxSteps:=2000000) -implicitDefEqProofs [-getElem?_pos,go_sem,eqV,ah,h0,ak])
 | some a =>
  obtain ⟨g,τ2,ob,hτ2,rfl,h3,h4⟩:=ho
  have hg:=h4.g
  generalize s.o.length = N at *
  (refine ⟨0,?_⟩;simp (maxSteps:=2000000) -implicitDefEqProofs [-getElem?_pos,go_sem,eqV,ah,h0,h3,hg,ak])
theorem Yq {m p n0 y k:Nat} {l:Bool} {v:AV} {E:AM.Heap} (h:IrV c b mo t E 0 oa s) (hp:E[p]? = some (some (bkO (y:Nat) l k 0))) (hn:n0≤100000000) (hs:s.o.length≤100000000):∃ code,((Try.f24.body).bind (aI [1,1,0,1,0,0,1,0,1,1,1,1,1,1,0])) = some code∧Run X (evT X) 24 m code (uw v p n0) E ⟨.normal,[(0,.ptr 0 0 0 0),(3,v),(5,.ptr p 0 0 0)],AM.upd E p (some (bkO (y:Nat) l k ((s.o.length:Int) - (n0:Int))))⟩:=by
 refine ⟨_,rfl,?_⟩
 obtain ⟨⟨vo,τ1,τ,a1,a2,h0,ho⟩,hne⟩:=id h
 simp only [bJ] at h0
 simp only [uw,bkO,bkR] at hp ⊢
 have w:IntKind.i64.wrap ((s.o.length:Int) - (n0:Int)) = (s.o.length:Int) - (n0:Int):=by rw [wrap_i64 (by omega) (by omega)]
 cases oa with
 | none =>
  obtain ⟨h1,τ2,hτ2,rfl⟩:=ho
  rw [h1] at w ⊢
  have w':IntKind.i64.wrap (-(n0:Int)) = -(n0:Int):=by simpa using w
  (refine ⟨0,?_⟩;simp (maxSteps:=2000000) -implicitDefEqProofs [-getElem?_pos,go_sem,eqV,ah,h0,hp,w'])
 | some a =>
  obtain ⟨g,τ2,ob,hτ2,rfl,h3,h4⟩:=ho
  have hg:=h4.g
  generalize s.o.length = N at *
  (refine ⟨0,?_⟩;simp (maxSteps:=2000000) -implicitDefEqProofs [-getElem?_pos,go_sem,eqV,ah,h0,h3,hg,hp,w])
theorem agX:Vs X 6 53 = true:=by kernel_rfl
theorem agY (k:Int):mO X 53 [(2,.int .i64 k)] = some (.agg (.pc [.int .i64 0,.bool false,.int .i64 k,.int .i64 0])):=by kernel_rfl
theorem agZ (l:List AV):mg X 53 l = some (.pc l):=by kernel_rfl
theorem ag0 (H:AM.Heap) (y n:Int) (l:Bool) (k:Nat):dA X H 41 1 [(0,.agg (.pc [.int .i64 y,.bool l,.int .i64 (k:Nat),.int .i64 n]))] = some (.ro 1 (.pr 4 [.pc [.int .i64 y,.bool l,.int .i64 (k:Nat),.int .i64 n]]) 0,H):=by kernel_rfl
theorem aaI {m p k:Nat} {y n:Int} {l:Bool} {v v':AV} {E E':AM.Heap} {la':Option Nat} {R:List AV} (hp:E[p]? = some (some (bkO y l k n))) (hA:dw X E 41 v (.ro 1 (.pr 4 [bkR y l k n]) 0) = some (v',E')) (hk:E'[p]? = E[p]?) (hpv:p ∉ ids v) (hv':LkV E' la' v' (R ++ [bkR y l k n])) :
  ∃ code,((Try.f24.body).bind (aI [1,1,0,1,0,0,1,0,1,1,1,1,1,1,1])) = some code∧Run X (evT X) 24 m code [(0,.ptr 0 0 0 0),(3,v),(5,.ptr p 0 0 0)] E ⟨.normal,[(0,.ptr 0 0 0 0),(3,v'),(4,.bool l)],E'⟩:=by
 refine ⟨_,rfl,?_⟩
 have hpl:=eY hp
 rw [← hk] at hp
 have hp0:=hp
 rw [hk] at hp0
 simp only [bkO,bkR] at hp hp0 hA
 cases la' with
 | none=>exact absurd hv'.2.1 (by simp)
 | some a =>
  obtain ⟨_,g,ob,rfl,_⟩:=hv'
  generalize (R ++ [bkR y l k n]).length = N at *
  apply Run.dy (by simp) Uf (by simp)
  ·(conv=>lhs;simp (maxSteps:=2000000) -implicitDefEqProofs [-getElem?_pos,go_sem,eqV,ah,jS,out1,bP,lD,jA,pushes,jE,ig,touched,mentioned,iR,fD,bZ,lF,Op.operands,ids,aA,aG,dS,dN,gI,jV,hp,hp0,hA,ak,iT,agZ,ag0,mQ,retag])
  ·refine jC (ps:=[(0,1),(0,2),(0,4),(1,4),(2,4),(3,4),(0,5),(1,5),(2,5),(3,5),(4,6),(5,6)]) (by kernel_rfl) ?_
   simp [vH,bear,disjoint,kX,Call.operands,aF,au,aA,ids,iT,agX,hpv,hpl]
  ·rfl
theorem LkV.off {E:AM.Heap} {la:Option Nat} {v:AV} {R:List AV} {p:Nat} (h:LkV E la v R) (hp:la ≠ some p):p ∉ ids v:=by
 cases la with
 | none =>
  obtain ⟨_,_,rfl⟩:=h
  simp [ids]
 | some a =>
  obtain ⟨_,g,ob,rfl,_⟩:=h
  simp [ids]
  exact fun e=>hp (by rw [e])
theorem Yr {m F:Nat} {v:AV} {la:Option Nat} {R:List AV} {E:AM.Heap} (h:IrV c b mo t E 0 oa s) (hs:fM b mo s) (hb:b.length≤100000) (hm:mo≤1000000) (he:s.e = 0) (hF:8 * b.length < F) (hL:LkV E la v R) (hR:R.length≤1000000) (l0:la ≠ some 0) (l1:∀ a,oa = some a→la ≠ some a) :
  ∃ code,((Try.f24.body).bind (aI [1,1,0,1,0,0,1])) = some code∧aj (fun out=>∃ oa' s' la' v' R' x,IrV c b mo t out.H 0 oa' s'∧(∀ a,oa = some a→oa' = some a)∧LkV out.H la' v' R'∧la' ≠ some 0∧(∀ a,oa' = some a→la' ≠ some a)∧gB b mo (F5 b mo F) s s' x∧R'.length≤R.length + 1∧(∀ a,la = some a→la' = some a) ∧
    ((out.ex = .exit 0∧au out.fr 3 = v'∧s'.e ≠ 0)∨(out.ex = .normal∧out.fr = [(0,.ptr 0 0 0 0),(3,v'),(4,.bool x.last)]∧(s'.e = 0→R' = R ++ [bkT x]))))
   X (evT X) 24 m code [(0,.ptr 0 0 0 0),(3,v),(17,.bool true)] E:=by
 refine ⟨_,rfl,?_⟩
 obtain ⟨⟨vo,τ1,τ,a1,a2,h0,ho⟩,hne⟩:=id h
 have hlt:=h.lt
 -- a new block
 have hr4:∃ code,((Try.f24.body).bind (aI [1,1,0,1,0,0,1,0,0])) = some code∧Run X (evT X) 24 m code [(0,.ptr 0 0 0 0),(3,v),(17,.bool true)] E ⟨.normal,[(0,.ptr 0 0 0 0),(3,v),(5,.ptr E.length 0 0 0)],E ++ [some (bkO 0 false s.k 0)]⟩:=by
  refine ⟨_,rfl,?_⟩
  simp only [bJ,bkO,bkR] at h0 ⊢
  (refine ⟨0,?_⟩;simp (maxSteps:=2000000) -implicitDefEqProofs [-getElem?_pos,go_sem,eqV,ah,h0,agY,yO,uM,splice,jm,scalars,scalar])
 refine aj.blk ?_ (by
  rintro o ⟨_,_,_,_,_,_,_,_,_,_,_,_,_,_,hx⟩
  rcases hx with ⟨hx,_⟩ | ⟨hx,_⟩ <;> rw [hx] <;> simp)
 apply aj.seq (piece hr4 _ rfl)
 have hV0:IrV c b mo t (E ++ [some (bkO 0 false s.k 0)]) 0 oa s:=h.cat
 apply aj.seq (piece (aaH hV0) _ rfl)
 have hK0:Kpt E (E ++ [some (bkO 0 false s.k 0)]) 0 oa oa:=Kpt.cat _
 have ag1:(E ++ [some (bkO 0 false s.k 0)])[E.length]? = some (some (bkO 0 false s.k 0)):=by simp
 have hl0:(E ++ [some (bkO 0 false s.k 0)]).length = E.length + 1:=by simp
 clear hr4
 generalize E ++ [some (bkO 0 false s.k 0)] = E0 at *
 -- is it the ak1
 obtain ⟨E1,oa1,s1,u,g1,g2,g3,k1⟩:=iZ (n:=1) (I:=1) rfl hV0 hs hb (by omega)
 obtain ⟨hp1,hn1⟩:=kept (j:=E.length) k1 (by omega) (by omega) (fun a ha=>by have:=hlt.2 a ha;omega)
 rw [ag1] at hp1
 have hle1:E.length + 1≤E1.length:=by have:=k1.len;omega
 apply aj.seq (fr':=uw v E.length s.o.length) (H':=AM.upd E1 E.length (some (bkO 0 (u == 1) s.k 0)))
 ·simp only [uw,bkO,bkR] at hp1 ⊢
  (refine ⟨0,?_⟩;simp (maxSteps:=2000000) -implicitDefEqProofs [-getElem?_pos,go_sem,eqV,ah,g1,hp1])
 have hV1:=g2.other (x:=some (bkO 0 (u == 1) s.k 0)) (j:=E.length) (by omega) hn1
 have hK1:=(hK0.trans k1).PU (p:=E.length) (x:=some (bkO 0 (u == 1) s.k 0)) (Nat.le_refl _)
 have hp1':(AM.upd E1 E.length (some (bkO 0 (u == 1) s.k 0)))[E.length]? = some (some (bkO 0 (u == 1) s.k 0)):=by unfold AM.upd;rw [List.getElem?_set_self (by omega)]
 have ak2:E.length + 1≤(AM.upd E1 E.length (some (bkO 0 (u == 1) s.k 0))).length:=by simpa [AM.upd] using hle1
 generalize AM.upd E1 E.length (some (bkO 0 (u == 1) s.k 0)) = E1' at *
 -- of what kind?
 obtain ⟨E2,oa2,s2,y,j1,j2,j3,k2⟩:=iZ (n:=2) (I:=2) rfl hV1 g3.1 hb (by omega)
 obtain ⟨y0,y4⟩:=iw j3 g3.1
 obtain ⟨y,rfl⟩:∃ u':Nat,y = (u':Int):=⟨y.toNat,by omega⟩
 obtain ⟨hp2,hn2⟩:=kept (j:=E.length) k2 (by omega) (by omega) hn1
 rw [hp1'] at hp2
 have hle2:=k2.len
 apply aj.seq (fr':=uw v E.length s.o.length) (H':=AM.upd E2 E.length (some (bkO (y:Nat) (u == 1) s.k 0)))
 ·simp only [uw,bkO,bkR] at hp2 ⊢
  (refine ⟨0,?_⟩;simp (maxSteps:=2000000) -implicitDefEqProofs [-getElem?_pos,go_sem,eqV,ah,j1,hp2])
 have hV2:=j2.other (x:=some (bkO (y:Nat) (u == 1) s.k 0)) (j:=E.length) (by omega) hn2
 have hK2:=(hK1.trans k2).PU (p:=E.length) (x:=some (bkO (y:Nat) (u == 1) s.k 0)) (Nat.le_refl _)
 have hp2':(AM.upd E2 E.length (some (bkO (y:Nat) (u == 1) s.k 0)))[E.length]? = some (some (bkO (y:Nat) (u == 1) s.k 0)):=by unfold AM.upd;rw [List.getElem?_set_self (by omega)]
 have ak3:E.length + 1≤(AM.upd E2 E.length (some (bkO (y:Nat) (u == 1) s.k 0))).length:=by simp only [AM.upd,List.length_set];omega
 generalize AM.upd E2 E.length (some (bkO (y:Nat) (u == 1) s.k 0)) = E2' at *
 have hoff:∀ a,la = some a→a < E.length∧a ≠ 0∧∀ z,oa = some z→a ≠ z:=fun a ha=>⟨hL.lt a ha,fun e=>l0 (by rw [ha,e]),fun z hz e=>l1 z hz (by rw [ha,e])⟩
 have hL2:LkV E2' la v R:=hL.keep fun a ha=>hK2.rest a (hoff a ha).1 (hoff a ha).2.1 (hoff a ha).2.2
 have hlx:∀ {E3:AM.Heap} {oa3:Option Nat},Kpt E E3 0 oa oa3→∀ a,oa3 = some a→la ≠ some a:=by
  intro E3 oa3 hK a ha e
  obtain ⟨q1,q2,q3⟩:=hoff a e
  exact (kept hK q1 q2 q3).2 a ha rfl
 -- an error?
 obtain ⟨⟨vo2,τ3,τ4,a3,a4,h02,ho2⟩,hne2⟩:=id hV2
 simp only [bJ] at h02
 apply aj.assoc
 by_cases he2:¬ s2.e = 0
 ·have heb:(s2.e != 0) = true:=by simpa using he2
  refine aj.of (o:=⟨.exit 0,uw v E.length s.o.length ++ [(39,.bool true)],E2'⟩) ?_ ⟨oa2,s2,la,v,R,⟨0,false,0,0⟩,hV2,hK2.same,hL2,l0,hlx hK2,?_,by omega,fun _ h=>h,.inl ⟨rfl,by simp [uw,au],he2⟩⟩
  ·simp only [uw]
   (refine ⟨0,?_⟩;simp (maxSteps:=2000000) -implicitDefEqProofs [-getElem?_pos,go_sem,eqV,ah,h02,he2,heb])
  ·have:=g3.toE.bnd (f:=fun l=>dD (fO b 2) fun t=>dD (CQ b mo F t) fun _=>fun k' o'=>Res.ok (⟨t,l == 1,s.k,o'.length - s.o.length⟩:Blk) k' o') (j3.toE.bnd (f:=fun t=>dD (CQ b mo F t) fun _=>fun k' o'=>Res.ok (⟨t,u == 1,s.k,o'.length - s.o.length⟩:Blk) k' o') (gB.stop (x:=⟨0,false,0,0⟩) j3.1 he2))
   exact this
 have he2:s2.e = 0:=Classical.not_not.1 he2
 apply aj.seq (fr':=uw v E.length s.o.length ++ [(39,.bool false)]) (H':=E2')
 ·simp only [uw]
  (refine ⟨0,?_⟩;simp (maxSteps:=2000000) -implicitDefEqProofs [-getElem?_pos,go_sem,eqV,ah,h02,he2])
 apply aj.seq (fr':=uw v E.length s.o.length ++ [(39,.bool false)]) (H':=E2')
 ·refine ⟨0,?_⟩
  simp only [uw]
  simp (maxSteps:=2000000) -implicitDefEqProofs [-getElem?_pos,go_sem,eqV,ah]
 apply aj.assoc
 apply aj.seq (fr':=uw v E.length s.o.length ++ [(41,.int .i64 (y:Nat))]) (H':=E2')
 ·simp only [uw,bkO,bkR] at hp2' ⊢
  (refine ⟨0,?_⟩;simp (maxSteps:=2000000) -implicitDefEqProofs [-getElem?_pos,go_sem,eqV,ah,hp2'])
 obtain ⟨E3,oa3,s3,i1,i2,k3,hrk⟩:=Yp (m:=m) (F:=F) (p:=E.length) (n0:=s.o.length) (y:=y) (v:=v) hV2 j3.1 hb hm he2 hF (by omega)
 apply aj.seq (piece hrk _ rfl)
 obtain ⟨hp3,hn3⟩:=kept (j:=E.length) k3 (by omega) (by omega) hn2
 rw [hp2'] at hp3
 have hs1:=hs.2
 have hs3:=i2.1.2
 apply aj.seq (piece (Yq i1 hp3 (by omega) (by omega)) _ rfl)
 have hle3:=k3.len
 have hV3:=i1.other (x:=some (bkO (y:Nat) (u == 1) s.k ((s3.o.length:Int) - (s.o.length:Int)))) (j:=E.length) (by omega) hn3
 have hK3:=(hK2.trans k3).PU (p:=E.length) (x:=some (bkO (y:Nat) (u == 1) s.k ((s3.o.length:Int) - (s.o.length:Int)))) (Nat.le_refl _)
 have acP:(AM.upd E3 E.length (some (bkO (y:Nat) (u == 1) s.k ((s3.o.length:Int) - (s.o.length:Int)))))[E.length]? = some (some (bkO (y:Nat) (u == 1) s.k ((s3.o.length:Int) - (s.o.length:Int)))):=by unfold AM.upd;rw [List.getElem?_set_self (by omega)]
 generalize AM.upd E3 E.length (some (bkO (y:Nat) (u == 1) s.k ((s3.o.length:Int) - (s.o.length:Int)))) = E3' at *
 have hL3:LkV E3' la v R:=hL.keep fun a ha=>hK3.rest a (hoff a ha).1 (hoff a ha).2.1 (hoff a ha).2.2
 obtain ⟨v',E4,la',hA,hL4,anL,hk4,hsm,hnw⟩:=hL3.app (kind:=(y:Nat)) (last:=(u == 1)) (k:=s.k) (n:=(s3.o.length:Int) - (s.o.length:Int)) (by omega)
 have hlp:la ≠ some E.length:=fun e=>by have:=(hoff _ e).1;omega
 have hlt3:=hV3.lt
 have hV4:IrV c b mo t E4 0 oa3 s3:=hV3.keep (hk4 0 hlt3.1 l0) fun a ha=>hk4 a (hlt3.2 a ha) (hlx hK3 a ha)
 have hla:la' ≠ some 0∧∀ a,oa3 = some a→la' ≠ some a:=by
  cases hq:la with
  | none =>
   rw [hnw hq]
   exact ⟨fun e=>by injection e with e;omega,fun a ha e=>by injection e with e;have:=hlt3.2 a ha;omega⟩
  | some z =>
   rw [hsm z hq,← hq]
   exact ⟨l0,fun a ha=>hlx hK3 a ha⟩
 have ag2:=aaI (m:=m) acP hA (hk4 _ (eY acP) hlp) (hL3.off hlp) hL4
 have hrun:gB b mo (F5 b mo F) s s3 ⟨(y:Nat),u == 1,s.k,s3.o.length - s.o.length⟩:=by
  have:=g3.toE.bnd (f:=fun l=>dD (fO b 2) fun t=>dD (CQ b mo F t) fun _=>fun k' o'=>Res.ok (⟨t,l == 1,s.k,o'.length - s.o.length⟩:Blk) k' o') (j3.toE.bnd (f:=fun t=>dD (CQ b mo F t) fun _=>fun k' o'=>Res.ok (⟨t,u == 1,s.k,o'.length - s.o.length⟩:Blk) k' o') (i2.bnd (f:=fun _=>fun k' o'=>Res.ok (⟨(y:Nat),u == 1,s.k,o'.length - s.o.length⟩:Blk) k' o') (gB.pure (fun k' o'=>(⟨(y:Nat),u == 1,s.k,o'.length - s.o.length⟩:Blk)) i2.1)))
  exact this
 refine aj.of (o:=⟨.normal,[(0,.ptr 0 0 0 0),(3,v'),(4,.bool (u == 1))],E4⟩) (piece ag2 _ rfl) ⟨oa3,s3,la',v',_,_,hV4,hK3.same,hL4,hla.1,hla.2,hrun,by simp,hsm,.inr ⟨rfl,rfl,fun he3=>?_⟩⟩
 have hlen:s.o.length≤s3.o.length:=by
  obtain ⟨_,f1⟩:=i2.fine he3
  obtain ⟨f2,f3⟩:=j3.fine he2
  obtain ⟨_,f4⟩:=g3.fine f2
  obtain ⟨x1,hx1⟩:=((J3 F _).up _ _ _ _ _ _ _ f1 j3.1.1).2.2.1
  obtain ⟨x2,hx2⟩:=((iG 2).up b mo _ _ _ _ _ f3 g3.1.1).2.2.1
  obtain ⟨x3,hx3⟩:=((iG 1).up b mo _ _ _ _ _ f4 hs.1).2.2.1
  rw [hx1,hx2,hx3]
  simp only [List.length_append]
  omega
 simp only [bkT]
 rw [show ((s3.o.length - s.o.length:Nat):Int) = (s3.o.length:Int) - (s.o.length:Int) by omega]
end
end Go.Proofs.Ytcllinmgllmpmaa
namespace Go.Proofs.Ytcllinmgllmpmaa
open Go.AM
section
variable {c:Nat} {b:List UInt8} {mo:Int} {t:Nat} {H:AM.Heap} {o:Nat} {oa:Option Nat} {s:Is}
def WC (v:AV) (l:Bool):AM.Frame:=[(0,.ptr 0 0 0 0),(3,v),(4,.bool l)]
theorem acQ {m:Nat} {v:AV} {l:Bool} {E:AM.Heap} (h:IrV c b mo t E 0 oa s):∃ code,((Try.f24.body).bind (aI [1,1,0,1,0,0,0,0])) = some code∧Run X (evT X) 24 m code (WC v l) E ⟨.normal,[(0,.ptr 0 0 0 0),(3,v),(17,.bool (!l && (s.e == 0)))],E⟩:=by
 refine ⟨_,rfl,?_⟩
 obtain ⟨⟨vo,τ1,τ,a1,a2,h0,ho⟩,hne⟩:=id h
 simp only [bJ] at h0
 simp only [WC]
 cases l
 ·by_cases he:s.e = 0
  ·rw [he] at h0 ⊢
   (refine ⟨0,?_⟩;simp (maxSteps:=2000000) -implicitDefEqProofs [-getElem?_pos,go_sem,eqV,ah,h0])
  ·have heb:(s.e == 0) = false:=by simpa using he
   (refine ⟨0,?_⟩;simp (maxSteps:=2000000) -implicitDefEqProofs [-getElem?_pos,go_sem,eqV,ah,h0,he,heb])
 ·(refine ⟨0,?_⟩;simp (maxSteps:=2000000) -implicitDefEqProofs [-getElem?_pos,go_sem,eqV,ah])
theorem WE {n:Nat}:∀ {k k':Nat} {o o':List UInt8} {x:Int},fO b n k o = .ok x k' o'→k' = k + n∧o' = o:=by
 induction n with
 | zero =>
  intro k k' o o' x h
  obtain ⟨_,rfl,rfl⟩:=iO h
  exact ⟨rfl,rfl⟩
 | succ n ih =>
  intro k k' o o' x h
  unfold fO at h
  obtain ⟨a,k1,o1,h1,h2⟩:=jh h
  obtain ⟨c,k2,o2,h3,h4⟩:=jh h2
  obtain ⟨rfl,rfl⟩:=ih h1
  unfold wz at h3
  split at h3
  ·obtain ⟨_,rfl,rfl⟩:=iO h3
   obtain ⟨_,rfl,rfl⟩:=iO h4
   exact ⟨by omega,rfl⟩
  ·cases h3
theorem aaJ {F k k1:Nat} {x:Blk} {o1 o2:List UInt8} (h:F5 b mo F k o1 = .ok x k1 o2) (hk:k≤8 * b.length):k + 3≤k1:=by
 unfold F5 at h
 obtain ⟨l,k2,o3,h1,h2⟩:=jh h
 obtain ⟨t,k3,o4,h3,h4⟩:=jh h2
 obtain ⟨u,k4,o5,h5,h6⟩:=jh h4
 have e1:=(WE h1).1
 have e2:=(WE h3).1
 have u1:=(iG 1).up b mo _ _ _ _ _ h1 hk
 have u2:=(iG 2).up b mo _ _ _ _ _ h3 u1.2.1
 have u3:=(J3 F _).up b mo _ _ _ _ _ h5 u2.2.1
 have h6':=h6
 injection h6' with e3 e4 e5
 have:=u3.1
 omega
theorem tX.done' {α β:Type} {m0:PM β} {m:PM α} {f:α→β} {s1:Is} (h:tX b mo m s1 m0 s f) (hs:fM b mo s1) (he:s1.e ≠ 0) (x:α) (y:β):gB b mo m0 s s1 y:=(h s1 x (gB.stop hs he)).any he
theorem NM {m F:Nat} {E:AM.Heap} (h:IrV c b mo t E 0 oa s) (hs:fM b mo s) (hb:b.length≤100000) (hm:mo≤1000000) (he:s.e = 0) (hF:8 * b.length < F) (hF2:F≤1000000):∃ code,Try.f24.body = some code ∧
  aj (qo fun fr E'=>∃ s' oa' a g ob R L,au fr 2 = .sl a 0 R.length g∧IrV c b mo t E' 0 oa' s'∧(∀ x,oa = some x→oa' = some x)∧E'[a]? = some (some ob)∧Rw (.pr 4 R) g ob∧a ≠ 0∧(∀ x,oa' = some x→a ≠ x)∧(∀ p ∈ R,ids p = []∧tags p = [])∧gB b mo (qp b mo F F) s s' L∧(s'.e = 0→R = L.map bkT)) X (evT X) 24 m code [(0,.ptr 0 0 0 0)] E:=by
 refine ⟨_,rfl,?_⟩
 have hE:bT X 53 = .pr 4 []:=by kernel_rfl
 apply aj.seq (fr':=[(0,.ptr 0 0 0 0)]) (H':=E ++ [some (⟨.pr 4 [],0,none,0,true,false,0⟩:AM.Obj)])
 ·(refine ⟨0,?_⟩;simp (maxSteps:=2000000) -implicitDefEqProofs [-getElem?_pos,go_sem,eqV,ah,ak,rowOf,hE])
 have hV0:IrV c b mo t (E ++ [some (⟨.pr 4 [],0,none,0,true,false,0⟩:AM.Obj)]) 0 oa s:=h.cat
 generalize E ++ [some (⟨.pr 4 [],0,none,0,true,false,0⟩:AM.Obj)] = E0 at *
 apply aj.seq (fr':=[(0,.ptr 0 0 0 0),(3,.sl E0.length 0 0 0)]) (H':=E0 ++ [some (⟨.pr 4 [],0,none,0,true,false,0⟩:AM.Obj)])
 ·(refine ⟨0,?_⟩;simp (maxSteps:=2000000) -implicitDefEqProofs [-getElem?_pos,go_sem,eqV,ah,ak,rowOf,hE])
 have hV1:IrV c b mo t (E0 ++ [some (⟨.pr 4 [],0,none,0,true,false,0⟩:AM.Obj)]) 0 oa s:=hV0.cat
 have hL1:LkV (E0 ++ [some (⟨.pr 4 [],0,none,0,true,false,0⟩:AM.Obj)]) (some E0.length) (.sl E0.length 0 0 0) []:=⟨by simp,0,⟨.pr 4 [],0,none,0,true,false,0⟩,rfl,by simp,⟨rfl,rfl,rfl,rfl,rfl⟩⟩
 have hlt:=hV0.lt
 generalize E0 ++ [some (⟨.pr 4 [],0,none,0,true,false,0⟩:AM.Obj)] = E1 at *
 apply aj.assoc
 apply aj.seq (fr':=WC (.sl E0.length 0 0 0) false) (H':=E1)
 ·simp only [WC]
  (refine ⟨0,?_⟩;simp (maxSteps:=2000000) -implicitDefEqProofs [-getElem?_pos,go_sem,eqV,ah,ak])
 have hz:E0.length ≠ 0:=by omega
 have hzo:∀ a,oa = some a→E0.length ≠ a:=fun a ha=>by have:=hlt.2 a ha;omega
 generalize E0.length = z at *
 apply aj.andThen (P:=fun fr E'=>∃ s' oa' v R L,au fr 3 = v∧IrV c b mo t E' 0 oa' s'∧(∀ x,oa = some x→oa' = some x)∧LkV E' (some z) v R∧(∀ x,oa' = some x→z ≠ x)∧gB b mo (qp b mo F F) s s' L∧(s'.e = 0→R = L.map bkT))
 ·apply aj.block
  refine aj.kF (I:=fun q fr E'=>∃ oa' s' v R done l,fr = WC v l∧IrV c b mo t E' 0 oa' s'∧fM b mo s'∧(∀ x,oa = some x→oa' = some x)∧LkV E' (some z) v R∧(∀ x,oa' = some x→z ≠ x)∧(s'.e = 0→R = done.map bkT)∧R.length + q≤F∧(s'.e = 0→8 * b.length < s'.k + q)∧((l = false∧tX b mo (qp b mo F q) s' (qp b mo F F) s (fun u=>done ++ u))∨(l = true∧gB b mo (qp b mo F F) s s' done))) ?_ (k:=F) ⟨oa,s,_,[],[],false,rfl,hV1,hs,fun _ h=>h,hL1,hzo,fun _=>rfl,by simp,fun _=>by omega,.inl ⟨rfl,fun _ _ h=>h⟩⟩
  rintro q fr E' ⟨oa',s',v,R,done,l,rfl,hV,hs',hm',hL,hoff,hR,hlen,hf,hC⟩
  apply aj.assoc
  apply aj.seq (piece (acQ (l:=l) hV) _ rfl)
  by_cases hgo:(!l && (s'.e == 0)) = true
  ·obtain ⟨hl,he'⟩:l = false∧s'.e = 0:=by simpa using hgo
   subst hl
   rw [hgo]
   have hC':=hC.elim (fun h=>h.2) (fun h=>absurd h.1 (by simp))
   have h1:=hf he'
   have h2:=hs'.1
   obtain ⟨q,rfl⟩:∃ q',q = q' + 1:=⟨q - 1,by omega⟩
   apply aj.seq (fr':=[(0,.ptr 0 0 0 0),(3,v),(17,.bool true)]) (H':=E')
   ·refine ⟨0,?_⟩
    simp (maxSteps:=2000000) -implicitDefEqProofs [-getElem?_pos,go_sem,eqV,ah]
   refine aj.mono (piece (Yr (m:=m) hV hs' hb hm he' hF hL (by omega) (by simpa using hz) (fun a ha=>by simpa using hoff a ha)) _ rfl) ?_
   rintro out ⟨oa2,s2,la',v',R',x,v1,v2,v3,v4,v5,v6,v7,v9,v8⟩
   have hla:la' = some z:=v9 z rfl
   subst hla
   have hfv:s2.e = 0→s'.k + 3≤s2.k:=fun h=>aaJ (v6.fine h).2 h2
   rcases v8 with ⟨w1,w2,w3⟩ | ⟨w1,w2,w3⟩
   ·refine .inr ⟨by rw [w1];simp,w1,s2,oa2,v',R',[],w2,v1,fun a ha=>v2 a (hm' a ha),v3,fun a ha=>by simpa using v5 a ha,?_,fun h=>absurd h w3⟩
    have hC2:tX b mo (if x.last = true then mG [x] else dD (qp b mo F q) fun r=>mG (x :: r)) s2 (qp b mo F F) s (fun u=>done ++ u):=hC'.step v6
    exact hC2.done' v6.1 w3 [] _
   ·have hC2:tX b mo (if x.last = true then mG [x] else dD (qp b mo F q) fun r=>mG (x :: r)) s2 (qp b mo F F) s (fun u=>done ++ u):=hC'.step v6
    refine .inl ⟨w1,q,by omega,oa2,s2,v',R',done ++ [x],x.last,w2,v1,v6.1,fun a ha=>v2 a (hm' a ha),v3,fun a ha=>by simpa using v5 a ha,fun h=>?_,by omega,fun h=>?_,?_⟩
    ·rw [w3 h,hR he']
     simp
    ·have:=hfv h
     omega
    ·cases hl:x.last with
     | true =>
      rw [if_pos hl] at hC2
      exact .inr ⟨rfl,hC2 _ [x] (cO.ret (d:=[x]) v6.1 fun _=>rfl).toE⟩
     | false =>
      rw [if_neg (by simp [hl])] at hC2
      refine .inl ⟨rfl,fun s3 y hy=>?_⟩
      have:=hC2 s3 (x :: y) (hy.bnd (f:=fun r=>mG (x :: r)) (cO.ret (d:=x :: y) hy.1 fun _=>rfl).toE)
      simpa using this
  ·refine aj.of (o:=⟨.exit 0,[(0,.ptr 0 0 0 0),(3,v),(17,.bool (!l && (s'.e == 0)))],E'⟩) ?_ (.inr ⟨by simp,rfl,s',oa',v,R,done,by simp [au],hV,hm',hL,hoff,?_,hR⟩)
   ·rw [show (!l && (s'.e == 0)) = false by simpa using hgo]
    refine ⟨0,?_⟩
    simp (maxSteps:=2000000) -implicitDefEqProofs [-getElem?_pos,go_sem,eqV,ah]
   ·rcases hC with ⟨hl,hC⟩ | ⟨_,hC⟩
    ·subst hl
     have hne:s'.e ≠ 0:=by simpa using hgo
     exact hC.done' hs' hne [] _
    ·exact hC
 ·rintro fr E' ⟨s',oa',v,R,L,hv,hV,hm',hL,hoff,hrun,hR⟩
  obtain ⟨hfl,g,ob,rfl,ho,hw⟩:=hL
  refine aj.of (o:=⟨.ret,[(2,.sl z 0 R.length g)],E'⟩) ?_ ⟨rfl,s',oa',z,g,ob,R,L,rfl,hV,hm',ho,hw,hz,hoff,hfl,hrun,hR⟩
  refine ⟨0,?_⟩
  generalize R.length = N at *
  simp (maxSteps:=2000000) -implicitDefEqProofs [-getElem?_pos,go_sem,eqV,ah,hv,ak]
end
end Go.Proofs.Ytcllinmgllmpmaa
namespace Go.Proofs.Ytcllinmgllmpmaa
open Go.AM
theorem IC:∀ {R:List AV},(∀ p ∈ R,ids p = []∧tags p = [])→aA R = []∧aU R = []
 | [],_=>⟨rfl,rfl⟩
 | p :: R,h=>by
  obtain ⟨h1,h2⟩:=h p (List.mem_cons_self ..)
  obtain ⟨h3,h4⟩:=IC fun q hq=>h q (List.mem_cons_of_mem _ hq)
  exact ⟨by simp [aA,h1,h3],by simp [aU,h2,h4]⟩
section
variable {c:Nat} {b:List UInt8} {mo:Int} {t:Nat} {H:AM.Heap} {o:Nat} {oa:Option Nat} {s:Is}
theorem Ug {F:Nat} (h:IrV c b mo t H o oa s) (hs:fM b mo s) (hb:b.length≤100000) (hm:mo≤1000000) (he:s.e = 0) (hF:8 * b.length < F) (hF2:F≤1000000) :
  ∃ H' oa' s' a g τ ob R L,evT X 24 [.ptr o 0 0 0] H = some (.sl a 0 R.length g,H')∧IrV c b mo t H' o oa' s'∧gB b mo (qp b mo F F) s s' L∧(s'.e = 0→R = L.map bkT)∧Kpt H H' o oa oa' ∧
   (τ = 0∨τ = t)∧H'[a]? = some (some ob)∧RwT (.pr 4 R) g τ ob∧(∀ p ∈ R,ids p = []∧tags p = [])∧H.length≤a∧a ≠ o∧∀ y,oa' = some y→a ≠ y:=by
 obtain ⟨code,hc⟩:∃ code,Try.f24.body = some code:=⟨_,rfl⟩
 obtain ⟨H',oa',s',w0,ex,ps,τf,hE,hτ,hV,hR,hnew,hnd,⟨R,L,rfl,rfl,hrun,hL,hfl⟩,hk⟩:=BO (f:=24) (n:=2) (xs:=[]) (ys:=[]) (Q:=fun s' w0 ps=>∃ R L,ps = [.pr 4 R]∧w0 = .sl 0 0 R.length 0∧gB b mo (qp b mo F F) s s' L∧(s'.e = 0→R = L.map bkT)∧∀ p ∈ R,ids p = []∧tags p = [])
  Try.func24 hc rfl h (fun π K hπ=>fK.nil) rfl rfl (by simp [dG]) (by
   intro m E oa1 _ _ _ hE
   obtain ⟨pq,hc2,ht⟩:=NM (m:=m) (F:=F) hE hs hb hm he hF hF2
   refine ⟨pq,hc2,?_⟩
   rw [acR]
   refine ht.mono ?_
   rintro out ⟨ho1,s',oa',a,g,ob,R,L,q1,q2,q3,q4,q5,q6,q7,q8,q9,q10⟩
   refine ⟨.inr ho1,s',oa',[.sl a 0 R.length g],[(a,g)],[.pr 4 R],.sl 0 0 R.length 0,?_,q2,q3,⟨⟨0,ob,.inl rfl,q4,⟨q5.p,q5.g,q5.row,q5.ids,q5.tg⟩⟩,trivial⟩,?_,?_,by simp [ids],by simp [ids],by simp [ids],by simp [tags],by simp [aO,ren,eP],R,L,rfl,rfl,q9,q10,q8⟩
   ·show aP X out.fr out.H [.tmp 2] = _
    simp [aP,q1]
   ·intro p hp
    simp at hp
    subst hp
    obtain ⟨f1,f2⟩:=IC q8
    exact ⟨by simp [ids,f1],by simp [tags,f2]⟩
   ·have hne:=q2.ne
    cases oa' with
    | none=>simp;omega
    | some y =>
     have h1:=hne y rfl
     have h2:=q7 y rfl
     simp;omega)
 match ex,hR with
 | [(x,g)],hR =>
  obtain ⟨⟨τ4,ob,h4,h5,h6⟩,_⟩:=hR
  refine ⟨H',oa',s',x,g,τ4,ob,R,L,by simpa [ren,eP] using hE,hV,hrun,hL,hk,h4,h5,h6,hfl,hnew (x,g) (by simp),?_,?_⟩
  ·intro e
   subst e
   simp at hnd
  ·intro w hw e
   subst hw e
   simp at hnd
end
end Go.Proofs.Ytcllinmgllmpmaa
namespace Go.Proofs.Ytcllinmgllmpmaa
open Go.AM
def BM (H:AM.Heap) (v:AV) (l:List UInt8):Prop :=
 (∃ o g τ ob,v = .sl o 0 l.length g∧H[o]? = some (some ob)∧RwT (.pb l) g τ ob)∨(l = []∧∃ τ,v = .ro 0 .pn τ)
def WG (t:Nat) (H:AM.Heap) (v:AV) (l:List UInt8):Prop :=
 (∃ o g τ ob,(τ = 0∨τ = t)∧v = .sl o 0 l.length g∧H[o]? = some (some ob)∧RwT (.pb l) g τ ob)∨(l = []∧v = .ro 0 .pn t)
theorem WG.v {t:Nat} {H:AM.Heap} {v:AV} {l:List UInt8} (h:WG t H v l):BM H v l:=by
 rcases h with ⟨o,g,τ,ob,_,rfl,h1,h2⟩ | ⟨rfl,rfl⟩
 ·exact .inl ⟨o,g,τ,ob,rfl,h1,h2⟩
 ·exact .inr ⟨rfl,t,rfl⟩
section
variable {c:Nat} {b:List UInt8} {mo:Int}
def SV (E:AM.Heap) (out:List UInt8) (v:AV):Prop:=(∃ o g τ ob,(τ = 0∨τ = 1)∧v = .sl o 0 out.length g∧E[o]? = some (some ob)∧RwT (.pb out) g τ ob)∨(out = []∧v = .ro 0 .pn 1)
theorem emB:bT X 5 = .pb []:=by kernel_rfl
theorem aaK {m:Nat} {E:AM.Heap} {oa:Option Nat} {s:Is} (h:IrV c b mo 1 E 1 oa s) (hb:b.length≤100000) (hs:fM b mo s):∃ v E',SV E' s.o v∧∃ code,((Try.f18.body).bind (aI [1,1,1,1,1,0])) = some code ∧
  Run X (evT X) 18 m code [(7,.ptr 1 0 0 0),(20,.bool false)] E ⟨.normal,[(4,v),(5,.int .i64 ((s.k + 7) / 8:Nat)),(6,.int .i64 0)],E'⟩:=by
 have hk:=hs.1
 obtain ⟨⟨vo,τ1,τ,a1,a2,h0,ho⟩,hne⟩:=id h
 have w1:IntKind.i64.wrap ((s.k:Int) + 7) = ((s.k + 7:Nat):Int):=by rw [wrap_i64 (by omega) (by omega)];omega
 have w2:((s.k + 7:Nat):Int).tdiv 8 = (((s.k + 7) / 8:Nat):Int):=by rw [Int.tdiv_eq_ediv_of_nonneg (by omega)];omega
 have w2':((s.k + 7:Nat):Int) / 8 = (((s.k + 7) / 8:Nat):Int):=by omega
 have w3:IntKind.i64.wrap ((((s.k + 7) / 8:Nat):Int)) = (((s.k + 7) / 8:Nat):Int):=wrap_i64 (by omega) (by omega)
 simp only [bJ] at h0
 generalize (s.k + 7) / 8 = k2 at *
 generalize s.k + 7 = k3 at *
 have hcase:(∃ a g τ2 ob,(τ2 = 0∨τ2 = 1)∧vo = .sl a 0 s.o.length g∧E[a]? = some (some ob)∧RwT (.pb s.o) g τ2 ob)∨(s.o = []∧vo = .ro 0 .pn 0)∨(s.o = []∧vo = .ro 0 .pn 1):=by
  cases oa with
  | none =>
   obtain ⟨h1,τ2,hτ2,rfl⟩:=ho
   rcases hτ2 with rfl | rfl
   ·exact .inr (.inl ⟨h1,rfl⟩)
   ·exact .inr (.inr ⟨h1,rfl⟩)
  | some a =>
   obtain ⟨g,τ2,ob,hτ2,rfl,h3,h4⟩:=ho
   exact .inl ⟨a,g,τ2,ob,hτ2,rfl,h3,h4⟩
 have hE1:1 < E.length:=eY h0
 have hE2:¬ E.length = 1:=by omega
 rcases hcase with ⟨a,g,τ2,ob,hτ2,rfl,h3,h4⟩ | ⟨h1,rfl⟩ | ⟨h1,rfl⟩
 ·refine ⟨.sl a 0 s.o.length g,E,.inl ⟨a,g,τ2,ob,hτ2,rfl,h3,h4⟩,_,rfl,?_⟩
  generalize s.o.length = N at *
  apply Run.dy (by simp) F6 (by simp)
  ·(conv=>lhs;simp (maxSteps:=2000000) -implicitDefEqProofs [-getElem?_pos,go_sem,eqV,ah,jS,out1,bP,lD,jA,pushes,jE,ig,touched,mentioned,iR,fD,bZ,lF,Op.operands,ids,aA,aG,dS,dN,gI,jV,h0,w1,w2,w2',w3,ak,iT])
  ·refine jC (ps:=[(0,4),(1,4),(2,4),(3,4),(0,5),(1,5),(2,5),(3,5),(0,6),(1,6),(2,6),(3,6),(0,7),(1,7),(2,7),(3,7),(0,8),(1,8),(2,8),(3,8),(0,9),(1,9),(2,9),(3,9),(4,10),(5,10),(6,10),(7,10),(8,10),(9,10)]) (by kernel_rfl) ?_
   simp [vH,bear,disjoint,kX,Call.operands,aF,au,aA,ids,iT,hE1,hE2]
  ·rfl
 ·rw [h1]
  refine ⟨.sl E.length 0 0 0,E ++ [some (⟨.pb [],0,none,0,true,false,0⟩:AM.Obj)],.inl ⟨E.length,0,0,_,.inl rfl,rfl,List.getElem?_concat_length,⟨rfl,rfl,rfl,rfl,rfl⟩⟩,_,rfl,?_⟩
  have hc:(E ++ [some (⟨.pb [],0,none,0,true,false,0⟩:AM.Obj)])[1]? = E[1]?:=List.getElem?_append_left hE1
  apply Run.dy (by simp) F6 (by simp)
  ·(conv=>lhs;simp (maxSteps:=2000000) -implicitDefEqProofs [-getElem?_pos,go_sem,eqV,ah,jS,out1,bP,lD,jA,pushes,jE,ig,touched,mentioned,iR,fD,bZ,lF,Op.operands,ids,aA,aG,dS,dN,gI,jV,h0,hc,w1,w2,w2',w3,ak,iT,rowOf,emB])
  ·refine jC (ps:=[(0,4),(1,4),(2,4),(3,4),(0,5),(1,5),(2,5),(3,5),(0,6),(1,6),(2,6),(3,6),(0,7),(1,7),(2,7),(3,7),(0,8),(1,8),(2,8),(3,8),(0,9),(1,9),(2,9),(3,9),(4,10),(5,10),(6,10),(7,10),(8,10),(9,10)]) (by kernel_rfl) ?_
   simp [vH,bear,disjoint,kX,Call.operands,aF,au,aA,ids,iT,hE1,hE2]
  ·rfl
 ·refine ⟨.ro 0 .pn 1,E,.inr ⟨h1,rfl⟩,_,rfl,?_⟩
  apply Run.dy (by simp) F6 (by simp)
  ·(conv=>lhs;simp (maxSteps:=2000000) -implicitDefEqProofs [-getElem?_pos,go_sem,eqV,ah,jS,out1,bP,lD,jA,pushes,jE,ig,touched,mentioned,iR,fD,bZ,lF,Op.operands,ids,aA,aG,dS,dN,gI,jV,h0,w1,w2,w2',w3,ak,iT])
  ·refine jC (ps:=[(0,4),(1,4),(2,4),(3,4),(0,5),(1,5),(2,5),(3,5),(0,6),(1,6),(2,6),(3,6),(0,7),(1,7),(2,7),(3,7),(0,8),(1,8),(2,8),(3,8),(0,9),(1,9),(2,9),(3,9),(4,10),(5,10),(6,10),(7,10),(8,10),(9,10)]) (by kernel_rfl) ?_
   simp [vH,bear,disjoint,kX,Call.operands,aF,au,aA,ids,iT,hE1,hE2]
  ·rfl
theorem aaL {m:Nat} {E:AM.Heap} {oa:Option Nat} {s:Is} (h:IrV c b mo 1 E 1 oa s):∃ E',SV E' [] (.sl E.length 0 0 0)∧∃ code,((Try.f18.body).bind (aI [1,1,1,1,0,1,0,0])) = some code ∧
  Run X (evT X) 18 m code [(7,.ptr 1 0 0 0),(20,.bool true)] E ⟨.normal,[(4,.sl E.length 0 0 0),(5,.int .i64 0),(6,.int .i64 s.e)],E'⟩:=by
 obtain ⟨⟨vo,τ1,τ,a1,a2,h0,ho⟩,hne⟩:=id h
 simp only [bJ] at h0
 have hE1:1 < E.length:=eY h0
 have hE2:¬ E.length = 1:=by omega
 refine ⟨E ++ [some (⟨.pb [],0,none,0,true,false,0⟩:AM.Obj)],.inl ⟨E.length,0,0,_,.inl rfl,rfl,List.getElem?_concat_length,⟨rfl,rfl,rfl,rfl,rfl⟩⟩,_,rfl,?_⟩
 apply Run.dy (by simp) WH (by simp)
 ·(conv=>lhs;simp (maxSteps:=2000000) -implicitDefEqProofs [-getElem?_pos,go_sem,eqV,ah,jS,out1,bP,lD,jA,pushes,jE,ig,touched,mentioned,iR,fD,bZ,lF,Op.operands,ids,aA,aG,dS,dN,gI,jV,h0,ak,iT,rowOf,emB])
 ·refine jC (ps:=[(0,4),(1,4),(2,4),(3,4),(0,5),(1,5),(2,5),(3,5)]) (by kernel_rfl) ?_
  simp [vH,bear,disjoint,kX,Call.operands,aF,au,aA,ids,iT,hE1,hE2]
 ·rfl
theorem ag3 (c:Nat) (b:List UInt8) (mo:Int) (t:Nat):mO X 40 [(0,.ro c (.pb b) t),(3,.int .i64 mo)] = some (.agg (.pc [.ro c (.pb b) t,.int .i64 0,.ro 0 .pn 0,.int .i64 mo,.int .i64 0])):=by kernel_rfl
def ag4 (b:List UInt8) (mo:Int) (F:Nat) (fr:AM.Frame) (H1:AM.Heap):Prop :=
 ∃ out n e v,vM F b mo = (out,n,e)∧au fr 4 = v∧au fr 5 = .int .i64 n∧au fr 6 = .int .i64 e∧SV H1 out v
theorem J4 {m F:Nat} (hb:b.length≤100000) (hm:mo≤1000000) (hm0:0≤mo) (hF:8 * b.length < F) (hF2:F≤1000000):∃ code,Try.f18.body = some code ∧
  aj (qo (ag4 b mo F)) X (evT X) 18 m code [(0,.ro c (.pb b) 1),(1,.int .i64 mo)] []:=by
 refine ⟨_,rfl,?_⟩
 apply aj.seq (fr':=[(0,.ro c (.pb b) 1),(1,.int .i64 mo)]) (H':=[some (⟨.pb [],0,none,0,true,false,0⟩:AM.Obj)])
 ·(refine ⟨0,?_⟩;simp (maxSteps:=2000000) -implicitDefEqProofs [-getElem?_pos,go_sem,eqV,ah,ak,rowOf,emB])
 apply aj.assoc
 apply aj.seq (fr':=[(0,.ro c (.pb b) 1),(1,.int .i64 mo),(9,.bool false)]) (H':=[some (⟨.pb [],0,none,0,true,false,0⟩:AM.Obj)])
 ·have:¬ mo < 0:=by omega
  (refine ⟨0,?_⟩;simp (maxSteps:=2000000) -implicitDefEqProofs [-getElem?_pos,go_sem,eqV,ah,this])
 apply aj.seq (fr':=[(0,.ro c (.pb b) 1),(1,.int .i64 mo),(9,.bool false)]) (H':=[some (⟨.pb [],0,none,0,true,false,0⟩:AM.Obj)])
 ·refine ⟨0,?_⟩
  simp (maxSteps:=2000000) -implicitDefEqProofs [-getElem?_pos,go_sem,eqV,ah]
 apply aj.seq (fr':=[(7,.ptr 1 0 0 0)]) (H':=[some (⟨.pb [],0,none,0,true,false,0⟩:AM.Obj),some (bJ c b mo ⟨0,[],0⟩ (.ro 0 .pn 0) 1 0)])
 ·simp only [bJ]
  (refine ⟨0,?_⟩;simp (maxSteps:=2000000) -implicitDefEqProofs [-getElem?_pos,go_sem,eqV,ah,ag3,ak])
 have hV:IrV c b mo 1 [some (⟨.pb [],0,none,0,true,false,0⟩:AM.Obj),some (bJ c b mo ⟨0,[],0⟩ (.ro 0 .pn 0) 1 0)] 1 none ⟨0,[],0⟩:=⟨⟨_,1,0,.inr rfl,.inl rfl,rfl,rfl,0,.inl rfl,rfl⟩,fun a h=>by cases h⟩
 generalize [some (⟨.pb [],0,none,0,true,false,0⟩:AM.Obj),some (bJ c b mo ⟨0,[],0⟩ (.ro 0 .pn 0) 1 0)] = E0 at *
 obtain ⟨E1,oa1,s1,a,g,τ,ob,R,L,hE,hV1,hrun,_⟩:=Ug (F:=F) hV ⟨by simp,by simpa using hm0⟩ hb hm rfl hF hF2
 apply aj.seq (fr':=[(7,.ptr 1 0 0 0)]) (H':=E1)
 ·generalize R.length = N at *
  (refine ⟨0,?_⟩;simp (maxSteps:=2000000) -implicitDefEqProofs [-getElem?_pos,go_sem,eqV,ah,hE])
 obtain ⟨⟨vo,τ1,τ,a1,a2,h0,ho⟩,hne⟩:=id hV1
 simp only [bJ] at h0
 apply aj.assoc
 apply aj.seq (fr':=[(7,.ptr 1 0 0 0),(20,.bool (s1.e != 0))]) (H':=E1)
 ·by_cases he:s1.e = 0
  ·rw [he] at h0 ⊢
   (refine ⟨0,?_⟩;simp (maxSteps:=2000000) -implicitDefEqProofs [-getElem?_pos,go_sem,eqV,ah,h0])
  ·have heb:(s1.e != 0) = true:=by simpa using he
   (refine ⟨0,?_⟩;simp (maxSteps:=2000000) -implicitDefEqProofs [-getElem?_pos,go_sem,eqV,ah,h0,he,heb])
 by_cases he:s1.e = 0
 ·have hok:=(hrun.fine he).2
  simp only at hok
  rw [show (s1.e != 0) = false by simpa using he]
  apply aj.seq (fr':=[(7,.ptr 1 0 0 0),(20,.bool false)]) (H':=E1)
  ·refine ⟨0,?_⟩
   simp (maxSteps:=2000000) -implicitDefEqProofs [-getElem?_pos,go_sem,eqV,ah]
  obtain ⟨v,E2,hv,hr⟩:=aaK (m:=m) hV1 hb hrun.1
  apply aj.seq (piece hr _ rfl)
  refine aj.of (o:=⟨.ret,[(4,v),(5,.int .i64 ((s1.k + 7) / 8:Nat)),(6,.int .i64 0)],E2⟩) ⟨0,rfl⟩ ⟨rfl,s1.o,((s1.k + 7) / 8:Nat),0,v,?_,rfl,rfl,rfl,hv⟩
  unfold vM
  rw [if_neg (by omega),hok]
 ·have h2:=hrun.2
  simp only [if_true] at h2
  rw [show (s1.e != 0) = true by simpa using he]
  obtain ⟨E2,hv,hr⟩:=aaL (m:=m) hV1
  refine aj.yQ ?_ (fun o ho=>by rw [ho.1];simp)
  refine aj.yt (by simp [aF,au]) ?_
  apply aj.seq (piece hr _ rfl)
  refine aj.of (o:=⟨.ret,[(4,.sl E1.length 0 0 0),(5,.int .i64 0),(6,.int .i64 s1.e)],E2⟩) ⟨0,rfl⟩ ⟨rfl,[],0,s1.e,_,?_,rfl,rfl,rfl,hv⟩
  unfold vM
  rw [if_neg (by omega)]
  cases hb:qp b mo F F 0 [] with
  | ok x k o =>
   rw [hb] at h2
   obtain ⟨rfl,_⟩:=h2
   exact absurd rfl he
  | err e =>
   rw [hb] at h2
   rw [h2.1]
end
section
theorem LW {F:Nat} {H:AM.Heap} {a:AV} {b:List UInt8} {mo:Int} (ha:dP H a = some (.pb b)) (hb:b.length≤100000) (hm:mo≤1000000) (hm0:0≤mo) (hF:8 * b.length < F) (hF2:F≤1000000) :
  ∃ out n e v R,vM F b mo = (out,n,e)∧evT X 18 [a,.int .i64 mo] H = some (.tup [v,.int .i64 n,.int .i64 e],H ++ R)∧WG (BN H a) (H ++ R) v out:=by
 have hl:aG X 18 H 0 [a,.int .i64 mo] = some ([.ro (rC H a) (.pb b) 1,.int .i64 mo],[⟨slO a,[BN H a]⟩,⟨[],[]⟩]):=by
  have h1:=Ht (k:=1) ha
  have hr:X.rw 18 0 = false:=rfl
  have hr1:X.rw 18 1 = false:=rfl
  have e2:aG X 18 H 1 [.int .i64 mo] = some ([.int .i64 mo],[⟨[],[]⟩]):=rfl
  rw [aG]
  simp only [hr,Nat.zero_add,h1,e2]
  exact fun _ _ _ _ h=>by cases h
 obtain ⟨code,hc,⟨out,⟨ho,l,n,e,v,h1,h2,h3,h4,h5⟩,hrun⟩⟩:=J4 (m:=0) (c:=rC H a) (b:=b) hb hm hm0 hF hF2
 have hres:aP X out.fr out.H (Try.f18.results.toList) = some [v,.int .i64 n,.int .i64 e]:=by
  show aP X out.fr out.H [.tmp 4,.tmp 5,.tmp 6] = _
  simp [aP,h2,h3,h4]
 have hcall:aj (fun o=>o = out) X (evT X) 18 0 code (numbered 0 (coerce X [.ro (rC H a) (.pb b) 1,.int .i64 mo] (aJ X 18))) []:=by
  rw [acS]
  exact ⟨out,rfl,hrun⟩
 rcases h5 with ⟨o,g,τ,ob,hτ,rfl,ho2,hw⟩ | ⟨rfl,rfl⟩
 ·obtain ⟨τ',ob',q1,q3,q4⟩:=Ev1.newT (C:=X) (bU X) (tg0:=BN H a) (bo:=slO a) (n:=l.length) (p:=.pb l) (rest:=[.int .i64 n,.int .i64 e]) Try.func18 hc hl rfl rfl (by simp [dG]) rfl rfl rfl rfl rfl (by simp) (hcall.mono fun x hx=>by
   subst hx
   exact ⟨ho,o,g,τ,ob,hτ,hres,ho2,hw⟩)
  exact ⟨l,n,e,_,[some ob'],h1,dX q1,.inl ⟨H.length,0,τ',ob',q4,rfl,List.getElem?_concat_length,q3⟩⟩
 ·have q1:=Ev1.bV (C:=X) (bU X) (tg0:=BN H a) (bo:=slO a) (l:=[.ro 0 .pn 1,.int .i64 n,.int .i64 e]) Try.func18 hc hl rfl rfl (by simp [dG]) (hcall.mono fun x hx=>by
   subst hx
   exact ⟨ho,hres⟩) rfl (by simp [aO,eU,tags,aU]) rfl
  exact ⟨[],n,e,.ro 0 .pn (BN H a),[],h1,by rw [List.append_nil];exact dX (by simpa [aO,eU,ren,bn] using q1),.inr ⟨rfl,rfl⟩⟩
end
end Go.Proofs.Ytcllinmgllmpmaa
namespace Go.Proofs.Ytcllinmgllmpmaa
open Go.AM
theorem BM.sl {H:AM.Heap} {v:AV} {l:List UInt8} (h:BM H v l) (hl:l ≠ []):∃ o g τ ob,v = .sl o 0 l.length g∧H[o]? = some (some ob)∧RwT (.pb l) g τ ob:=h.elim id fun h=>absurd h.1 hl
theorem BM.asg {H:AM.Heap} {v:AV} {l:List UInt8} (h:BM H v l):∃ v' H',ak X H 22 v = (v',H')∧BM H' v' l∧H.length≤H'.length∧∀ j,j < H.length→H'[j]? = H[j]?:=by
 rcases h with ⟨o,g,τ,ob,rfl,ho,hw⟩ | ⟨rfl,τ,rfl⟩
 ·exact ⟨_,H,rfl,.inl ⟨o,g,τ,ob,rfl,ho,hw⟩,Nat.le_refl _,fun _ _=>rfl⟩
 ·by_cases h0:τ = 0
  ·subst h0
   refine ⟨.sl H.length 0 0 0,H ++ [some (⟨.pb [],0,none,0,true,false,0⟩:AM.Obj)],?_,.inl ⟨H.length,0,0,⟨.pb [],0,none,0,true,false,0⟩,rfl,by simp,⟨rfl,rfl,rfl,rfl,rfl⟩⟩,by simp,fun j hj=>List.getElem?_append_left hj⟩
   simp [ak,rowOf,emB]
  ·refine ⟨.ro 0 .pn τ,H,?_,.inr ⟨rfl,τ,rfl⟩,Nat.le_refl _,fun _ _=>rfl⟩
   simp [ak,h0]
theorem WG.asg {t:Nat} {H:AM.Heap} {v:AV} {l:List UInt8} (h:WG t H v l) (ht:t ≠ 0):ak X H 22 v = (v,H):=by
 rcases h with ⟨o,g,τ,ob,hτ,rfl,ho,hw⟩ | ⟨rfl,rfl⟩
 ·rfl
 ·simp [ak,ht]
theorem BM.keep {H H':AM.Heap} {v:AV} {l:List UInt8} (h:BM H v l) (hk:∀ j,j < H.length→H'[j]? = H[j]?):BM H' v l:=by
 rcases h with ⟨o,g,τ,ob,rfl,ho,hw⟩ | h
 ·exact .inl ⟨o,g,τ,ob,rfl,by rw [hk o (eY ho)];exact ho,hw⟩
 ·exact .inr h
theorem Zo (H:AM.Heap) (t:Nat) (k:IntKind) (n:Int):ak X H t (.int k n) = (.int k n,H):=rfl
end Go.Proofs.Ytcllinmgllmpmaa
