/- IR to IW: texts of this claim, one behind the other; what each shows stands at its head. -/
import Derived.Test.YtcllinmgllmpmaaAm3
import Derived.Test.YtcllinmgllmpmaaMg8
set_option linter.unusedSimpArgs false
set_option linter.unusedVariables false
set_option maxRecDepth 100000
set_option maxHeartbeats 8000000
namespace Go.Proofs.Ytcllinmgllmpmaa
open Go.AM
section
variable {c:Nat} {b:List UInt8} {mo:Int} {N t:Nat} {H:AM.Heap} {lb nb rb:Nat} {la oa:Option Nat} {acc:List Int} {s:Is}
theorem abz {m cl j:Nat} {L:List Int} {E:AM.Heap} (h:AgV c b mo (N:Nat) t E lb nb rb 0 la oa acc s) (hl:acc.length≤900):∃ E' la',AgV c b mo (N:Nat) t E' lb nb rb 0 la' oa (acc ++ [(j:Int)]) s∧∃ code,((Try.f68.body).bind (aI [1,1,1,0,0,0,1,0,1,1,0,1,1,1,1,1,1])) = some code ∧
  Run X (evT X) 68 m code (dI cl L rb nb lb ++ [(9,.int .i64 (j:Nat)),(70,.bool false)]) E ⟨.normal,dI cl L rb nb lb,E'⟩:=by
 obtain ⟨n1,n2,n3,n4,n5,n6,n7,n8⟩:=h.ne
 obtain ⟨l1,l2,l3,l4,l5,l6⟩:=h.lt
 obtain ⟨lv,τ,hτ,hb,hL⟩:=h.l
 obtain ⟨lv',E1,la',hA,hL',hm,hnw,hlen,hk,a,g,hlv⟩:=hL.app (j:Int) (by omega)
 have hb':E1[lb]? = some (some (bxO lv τ)):=by rw [hk lb l1 (fun a ha=>(n7 a ha).1)];exact hb
 have hla:∀ a,la' = some a→a ≠ lb:=by
  intro a ha e
  cases hq:la with
  | none=>rw [hnw hq] at ha;cases ha;omega
  | some z=>rw [hm z hq] at ha;cases ha;exact (n7 _ hq).1 e.symm
 have hrd:IrV c b mo t E1 0 oa s:=h.d.keep (hk 0 l4 (fun a ha=>(n7 a ha).2.2.2.1)) fun a ha=>hk a (l6 a ha) (fun z hz=>Ne.symm ((n7 z hz).2.2.2.2 a ha))
 refine ⟨AM.upd E1 lb (some (bxO lv' τ)),la',⟨⟨lv',τ,hτ,setAt hb',hL'.keep fun a ha=>by unfold AM.upd;rw [List.getElem?_set_ne (Ne.symm (hla a ha))]⟩,?_,?_,hrd.other n3 (fun a ha=>(n8 a ha).1),?_⟩,_,rfl,?_⟩
 ·obtain ⟨τ2,h1,h2⟩:=h.n
  exact ⟨τ2,h1,wB (by rw [hk nb l2 (fun a ha=>(n7 a ha).2.1)];exact h2) n1⟩
 ·obtain ⟨τ2,h1,h2⟩:=h.r
  exact ⟨τ2,h1,wB (by rw [hk rb l3 (fun a ha=>(n7 a ha).2.2.1)];exact h2) n2⟩
 ·cases hq:la with
  | some z=>rw [hm z hq,← hq];exact h.nd
  | none =>
   rw [hnw hq]
   have hn:=h.nd
   rw [hq] at hn
   cases oa with
   | none=>simp at hn ⊢;omega
   | some z=>have:=l6 z rfl;simp at hn ⊢;omega
 ·subst hlv
  have hbs:=bsI E (j:Int)
  simp only [bxO] at hb hb' ⊢
  simp only [dI]
  generalize (acc ++ [(j:Int)]).length = M at *
  (refine ⟨0,?_⟩;simp (maxSteps:=2000000) -implicitDefEqProofs [-getElem?_pos,go_sem,eqV,ah,hb,hb',hbs,hA])
def LeF (cl:Nat) (L:List Int) (rb nb lb:Nat) (fr:AM.Frame):Prop:=au fr 1 = .ro cl (.pi .i64 L) 2∧au fr 3 = .ptr rb 0 0 0∧au fr 5 = .ptr nb 0 0 0∧au fr 7 = .ptr lb 0 0 0∧au fr 8 = .fn 86 [.ptr lb 0 0 0,.ptr nb 0 0 0,.ptr rb 0 0 0]
theorem LeF.of {cl:Nat} {L:List Int} {fr:AM.Frame} (h:aZ [1,3,5,7,8] fr = dI cl L rb nb lb):LeF cl L rb nb lb fr:=by
 simpa [aZ,dI,LeF] using h
theorem Y0 {m cl:Nat} {L:List Int} {E:AM.Heap} (h:AgV c b mo (N:Nat) t E lb nb rb 0 la oa acc s):∃ code,((Try.f68.body).bind (aI [1,1,1,0,0,0,1,0,1,1,0,1,0,0,0])) = some code∧Run X (evT X) 68 m code (dI cl L rb nb lb ++ [(9,.int .i64 16),(28,.int .i64 16),(33,.bool true)]) E ⟨.normal,dI cl L rb nb lb ++ [(37,.bool (acc.length == 0))],E⟩:=by
 refine ⟨_,rfl,?_⟩
 obtain ⟨lv,τ,hτ,hb,hL⟩:=h.l
 simp only [bxO] at hb
 cases la with
 | none =>
  obtain ⟨h1,τ4,hτ4,rfl⟩:=hL
  rw [h1]
  simp only [dI]
  (refine ⟨0,?_⟩;simp (maxSteps:=2000000) -implicitDefEqProofs [-getElem?_pos,go_sem,eqV,ah,hb])
 | some a =>
  obtain ⟨g,τ4,ob,hτ4,rfl,h3,h4⟩:=hL
  have hg:=h4.g
  have hd:(acc.length == 0) = ((acc.length:Int) == 0):=by
   by_cases h1:acc.length = 0
   ·rw [h1];rfl
   ·rw [show (acc.length == 0) = false by simpa using h1,show ((acc.length:Int) == 0) = false from beq_eq_false_iff_ne.2 (by omega)]
  rw [hd]
  simp only [dI]
  generalize acc.length = q at *
  (refine ⟨0,?_⟩;simp (maxSteps:=2000000) -implicitDefEqProofs [-getElem?_pos,go_sem,eqV,ah,hb,h3,hg])
theorem XE {m cl:Nat} {L:List Int} {E:AM.Heap} (h:AgV c b mo (N:Nat) t E lb nb rb 0 la oa acc s) (hs:fM b mo s) (hb:b.length≤100000) (he:s.e = 0) (hl:acc.length≤900) (hlN:acc.length < N) (hLl:L.length < 9223372036854775808) :
  ∃ E' la' oa' acc' s',AgV c b mo (N:Nat) t E' lb nb rb 0 la' oa' acc' s'∧gB b mo (dD (uK b L) fun j=>DK b N acc j) s s' acc'∧acc'.length≤N + 1∧(∀ a,oa = some a→oa' = some a) ∧
   ∃ fr,LeF cl L rb nb lb fr∧∃ code,((Try.f68.body).bind (aI [1,1,1,0,0,0,1])) = some code∧Run X (evT X) 68 m code (dI cl L rb nb lb ++ [(24,.bool true)]) E ⟨.normal,fr,E'⟩:=by
 obtain ⟨E1,oa1,s1,j,h1,h2,h3,h4⟩:=BG (a:=.ro cl (.pi .i64 L) 2) (l:=L) h.d hs hb rfl (fun x hx=>by cases hx) hLl
 have hV1:=h.reader h2 h4
 obtain ⟨τ3,hτ3,hb3⟩:=h.r
 obtain ⟨τ4,hτ4,hb4⟩:=hV1.r
 simp only [bxO] at hb3 hb4
 have hj0:s1.e ≠ 0→j = 0:=fun h=>(h3.err he h).2
 have hlf:LeF cl L rb nb lb (dI cl L rb nb lb):=LeF.of rfl
 -- what stands before the choice
 have hhead:∀ (E2:AM.Heap) (fr2:AM.Frame),(∃ code,((Try.f68.body).bind (aI [1,1,1,0,0,0,1,0,1,1])) = some code∧Run X (evT X) 68 m code (dI cl L rb nb lb ++ [(9,.int .i64 (j:Nat)),(28,.int .i64 (j:Nat))]) E1 ⟨.normal,fr2,E2⟩)→∃ code,((Try.f68.body).bind (aI [1,1,1,0,0,0,1])) = some code∧Run X (evT X) 68 m code (dI cl L rb nb lb ++ [(24,.bool true)]) E ⟨.normal,fr2,E2⟩:=by
  intro E2 fr2 hh
  refine ⟨_,rfl,?_⟩
  apply Run.block
  ·apply Run.seq (fr':=dI cl L rb nb lb ++ [(9,.int .i64 (j:Nat))]) (H':=E1)
   ·simp only [dI]
    (refine ⟨0,?_⟩;simp (maxSteps:=2000000) -implicitDefEqProofs [-getElem?_pos,go_sem,eqV,ah,hb3,h1,ak])
   apply Run.seq (fr':=dI cl L rb nb lb ++ [(9,.int .i64 (j:Nat)),(28,.int .i64 (j:Nat))]) (H':=E1)
   ·simp only [dI]
    (refine ⟨0,?_⟩;simp (maxSteps:=2000000) -implicitDefEqProofs [-getElem?_pos,go_sem,eqV,ah])
   exact piece hh _ rfl
  ·simp
 by_cases he1:¬ s1.e = 0∨(j ≠ 16∧j ≠ 17∧j ≠ 18)
 ·-- a length,or nothing any more
  have hjn:j ≠ 16∧j ≠ 17∧j ≠ 18:=by
   rcases he1 with h | h
   ·rw [hj0 h];omega
   ·exact h
  obtain ⟨E2,la2,v1,hr6⟩:=abz (m:=m) (cl:=cl) (L:=L) (j:=j) hV1 hl
  refine ⟨E2,la2,oa1,acc ++ [(j:Int)],s1,v1,?_,by simp;omega,h4.same,_,hlf,hhead E2 _ ⟨_,rfl,?_⟩⟩
  ·refine h3.toE.bnd (f:=fun j=>DK b N acc j) ?_
   by_cases h0:s1.e = 0
   ·refine ⟨h3.1,?_⟩
    rw [if_pos h0]
    unfold DK
    rw [if_neg hjn.1,if_neg hjn.2.1,if_neg hjn.2.2]
    exact ⟨by rw [← h0],rfl⟩
   ·exact gB.stop h3.1 h0
  ·have e1:((j:Int) == 16) = false:=by simp;omega
   have e2:((j:Int) == 17) = false:=by simp;omega
   have e3:((j:Int) == 18) = false:=by simp;omega
   have f1:¬ (j:Int) = 16:=by omega
   have f2:¬ (j:Int) = 17:=by omega
   have f3:¬ (j:Int) = 18:=by omega
   apply Run.block
   ·apply Run.seq (fr':=dI cl L rb nb lb ++ [(9,.int .i64 (j:Nat)),(28,.int .i64 (j:Nat)),(33,.bool false)]) (H':=E1)
    ·simp only [dI]
     (refine ⟨0,?_⟩;simp (maxSteps:=2000000) -implicitDefEqProofs [-getElem?_pos,go_sem,eqV,ah,e1,f1,ak])
    refine Run.cond (d:=false) (by simp [dI,aF,au]) ?_
    apply Run.seq (fr':=dI cl L rb nb lb ++ [(9,.int .i64 (j:Nat)),(28,.int .i64 (j:Nat)),(57,.bool false)]) (H':=E1)
    ·simp only [dI]
     (refine ⟨0,?_⟩;simp (maxSteps:=2000000) -implicitDefEqProofs [-getElem?_pos,go_sem,eqV,ah,e2,f2,ak])
    refine Run.cond (d:=false) (by simp [dI,aF,au]) ?_
    apply Run.seq (fr':=dI cl L rb nb lb ++ [(9,.int .i64 (j:Nat)),(70,.bool false)]) (H':=E1)
    ·simp only [dI]
     (refine ⟨0,?_⟩;simp (maxSteps:=2000000) -implicitDefEqProofs [-getElem?_pos,go_sem,eqV,ah,e3,f3,ak])
    refine Run.cond (d:=false) (by simp [dI,aF,au]) ?_
    exact piece hr6 _ rfl
   ·simp
 have Zr:s1.e = 0:=Classical.not_not.1 fun h=>he1 (.inl h)
 by_cases h16:j = 16
 ·subst h16
  by_cases ha0:acc = []
  ·obtain ⟨E2,g1,g2,g3⟩:=lI (e:=5) hV1.d
   refine ⟨E2,la,oa1,acc,_,hV1.reader g2 g3,?_,by omega,h4.same,_,hlf,hhead E2 _ ⟨_,rfl,?_⟩⟩
   ·refine h3.toE.bnd (f:=fun j=>DK b N acc j) ?_
    show gB b mo (if acc = [] then nU 5 else _) s1 _ acc
    rw [if_pos ha0]
    exact (cO.bad (d:=acc) h3.1 (by simp)).toE
   ·have h8:=Y0 (m:=m) (cl:=cl) (L:=L) hV1
    rw [ha0] at h8
    apply Run.iP
    apply Run.seq (fr':=dI cl L rb nb lb ++ [(9,.int .i64 16),(28,.int .i64 16),(33,.bool true)]) (H':=E1)
    ·simp only [dI]
     (refine ⟨0,?_⟩;simp (maxSteps:=2000000) -implicitDefEqProofs [-getElem?_pos,go_sem,eqV,ah,ak])
    refine Run.cond (d:=true) (by simp [dI,aF,au]) ?_
    apply Run.bH
    ·apply Run.seq (piece h8 _ rfl)
     refine Run.cond (d:=true) (by simp [dI,aF,au]) ?_
     apply Run.seq (fr':=dI cl L rb nb lb) (H':=E2)
     ·simp only [dI]
      (refine ⟨0,?_⟩;simp (maxSteps:=2000000) -implicitDefEqProofs [-getElem?_pos,go_sem,eqV,ah,hb4,g1])
     ·exact ⟨0,rfl⟩
    ·simp
  ·obtain ⟨E2,la2,oa2,wF,s2,g1,g2,g3,g4,g5,g6,_,_,_,fr,hr⟩:=abl (m:=m) (cl:=cl) (L:=L) hV1 h3.1 hb Zr hl ha0
   obtain ⟨code,hcode,hrun,hkf⟩:=hr
   refine ⟨E2,la2,oa2,wF,s2,g1,?_,g3 (by omega),fun a ha=>g5 a (h4.same a ha),fr,LeF.of hkf,hhead E2 fr ⟨_,rfl,?_⟩⟩
   ·refine h3.toE.bnd (f:=fun j=>DK b N acc j) ?_
    show gB b mo (if acc = [] then nU 5 else _) s1 _ wF
    rw [if_neg ha0]
    exact g2
   ·have h8:=Y0 (m:=m) (cl:=cl) (L:=L) hV1
    rw [show (acc.length == 0) = false by simp;exact ha0] at h8
    apply Run.block
    ·apply Run.seq (fr':=dI cl L rb nb lb ++ [(9,.int .i64 16),(28,.int .i64 16),(33,.bool true)]) (H':=E1)
     ·simp only [dI]
      (refine ⟨0,?_⟩;simp (maxSteps:=2000000) -implicitDefEqProofs [-getElem?_pos,go_sem,eqV,ah,ak])
     refine Run.cond (d:=true) (by simp [dI,aF,au]) ?_
     apply Run.seq (fr':=dI cl L rb nb lb ++ [(37,.bool false)]) (H':=E1)
     ·apply Run.seq (piece h8 _ rfl)
      exact Run.cond (d:=false) (by simp [dI,aF,au]) ⟨0,rfl⟩
     exact (Option.some.inj hcode) ▸ hrun
    ·simp
 by_cases h17:j = 17
 ·subst h17
  obtain ⟨E2,la2,oa2,wF,s2,g1,g2,g3,g4,g5,g6,_,_,_,fr,hr⟩:=abm (m:=m) (cl:=cl) (L:=L) hV1 h3.1 hb Zr hl
  obtain ⟨code,hcode,hrun,hkf⟩:=hr
  refine ⟨E2,la2,oa2,wF,s2,g1,?_,g3 (by omega),fun a ha=>g5 a (h4.same a ha),fr,LeF.of hkf,hhead E2 fr ⟨_,rfl,?_⟩⟩
  ·exact h3.toE.bnd (f:=fun j=>DK b N acc j) g2
  ·apply Run.block
   ·apply Run.seq (fr':=dI cl L rb nb lb ++ [(9,.int .i64 17),(28,.int .i64 17),(33,.bool false)]) (H':=E1)
    ·simp only [dI]
     (refine ⟨0,?_⟩;simp (maxSteps:=2000000) -implicitDefEqProofs [-getElem?_pos,go_sem,eqV,ah,ak])
    refine Run.cond (d:=false) (by simp [dI,aF,au]) ?_
    apply Run.seq (fr':=dI cl L rb nb lb ++ [(9,.int .i64 17),(28,.int .i64 17),(57,.bool true)]) (H':=E1)
    ·simp only [dI]
     (refine ⟨0,?_⟩;simp (maxSteps:=2000000) -implicitDefEqProofs [-getElem?_pos,go_sem,eqV,ah,ak])
    refine Run.cond (d:=true) (by simp [dI,aF,au]) ?_
    exact (Option.some.inj hcode) ▸ hrun
   ·simp
 have h18:j = 18:=by
  refine Classical.byContradiction fun h=>?_
  exact he1 (.inr ⟨h16,h17,h⟩)
 subst h18
 obtain ⟨E2,la2,oa2,wF,s2,g1,g2,g3,g4,g5,g6,_,_,_,fr,hr⟩:=abn (m:=m) (cl:=cl) (L:=L) hV1 h3.1 hb Zr hl
 obtain ⟨code,hcode,hrun,hkf⟩:=hr
 refine ⟨E2,la2,oa2,wF,s2,g1,?_,g3 (by omega),fun a ha=>g5 a (h4.same a ha),fr,LeF.of hkf,hhead E2 fr ⟨_,rfl,?_⟩⟩
 ·exact h3.toE.bnd (f:=fun j=>DK b N acc j) g2
 ·apply Run.block
  ·apply Run.seq (fr':=dI cl L rb nb lb ++ [(9,.int .i64 18),(28,.int .i64 18),(33,.bool false)]) (H':=E1)
   ·simp only [dI]
    (refine ⟨0,?_⟩;simp (maxSteps:=2000000) -implicitDefEqProofs [-getElem?_pos,go_sem,eqV,ah,ak])
   refine Run.cond (d:=false) (by simp [dI,aF,au]) ?_
   apply Run.seq (fr':=dI cl L rb nb lb ++ [(9,.int .i64 18),(28,.int .i64 18),(57,.bool false)]) (H':=E1)
   ·simp only [dI]
    (refine ⟨0,?_⟩;simp (maxSteps:=2000000) -implicitDefEqProofs [-getElem?_pos,go_sem,eqV,ah,ak])
   refine Run.cond (d:=false) (by simp [dI,aF,au]) ?_
   apply Run.seq (fr':=dI cl L rb nb lb ++ [(9,.int .i64 18),(70,.bool true)]) (H':=E1)
   ·simp only [dI]
    (refine ⟨0,?_⟩;simp (maxSteps:=2000000) -implicitDefEqProofs [-getElem?_pos,go_sem,eqV,ah,ak])
   refine Run.cond (d:=true) (by simp [dI,aF,au]) ?_
   exact (Option.some.inj hcode) ▸ hrun
  ·simp
end
end Go.Proofs.Ytcllinmgllmpmaa
namespace Go.Proofs.Ytcllinmgllmpmaa
open Go.AM
section
variable {c:Nat} {b:List UInt8} {mo:Int} {t:Nat} {H:AM.Heap} {o:Nat} {oa:Option Nat} {s:Is}
theorem Zt (s:Is) (r:Bool) (i:Nat):wtF [] i (irS c b mo s r)≤1:=by
 cases r <;> simp [irS,wtF,kids,bJ,ids,aA]
theorem BO {f n:Nat} {fn:Func} {code:Code} {xs ys:List AV} {Q:Is→AV→List AV→Prop} (hF:X.P.funcs[f]? = some fn) (hb:fn.body = some code) (hrw:X.rw f 0 = false) (h:IrV c b mo t H o oa s)
  (hA:∀ π K,π.map Prod.fst = o :: oa.toList→fK X f H π K 1 xs ys) (hi:aA ys = []) (hn:xs.length + 2 = n) (hng:n < dG)
  (run:∀ m E oa1,oa1.isSome = oa.isSome→(∀ a,oa1 = some a→a = 1)→E.length = (if oa.isSome then 2 else 1)→IrV c b mo n E 0 oa1 s→∃ code,fn.body = some code∧aj (kE fun fr E'=>∃ s' oa' l ex ps w0,aP X fr E' fn.results.toList = some l∧IrV c b mo n E' 0 oa' s'∧(∀ a,oa1 = some a→oa' = some a) ∧
   eu n E' ex ps∧(∀ p ∈ ps,ids p = []∧tags p = [])∧(0 :: oa'.toList ++ ex.map Prod.fst).Nodup∧(ids w0).length≤1000∧(∀ k ∈ ids w0,k < ex.length)∧(∀ k,k < ex.length→k ∈ ids w0)∧(∀ k ∈ tags w0,k = 0∨k = n)∧aO l = ren (eP ex) (fun t=>t) w0∧Q s' w0 ps)
   X (evT X) f m code (numbered 0 (coerce X (.ptr 0 0 0 0 :: ys) (aJ X f))) E) :
  ∃ H' oa' s' w0 ex ps τf,evT X f (.ptr o 0 0 0 :: xs) H = some (ren (eP ex) τf w0,H')∧(∀ k ∈ tags w0,τf k = 0∨τf k = t)∧IrV c b mo t H' o oa' s'∧eu t H' ex ps∧(∀ x ∈ ex,H.length≤x.1)∧(o :: oa'.toList ++ ex.map Prod.fst).Nodup∧Q s' w0 ps∧Kpt H H' o oa oa':=by
 obtain ⟨π,hI,hπ,hπ0⟩:=h.img
 have hK:0 < (irS c b mo s oa.isSome).length:=by rw [fQ];split <;> omega
 have hA2:fK X f H π (irS c b mo s oa.isSome).length 0 (.ptr o 0 0 0 :: xs) (.ptr 0 0 0 0 :: ys):=fK.ptr hI hrw hπ0 hK (hA π _ hπ)
 have hso:∀ {H:AM.Heap} {t o:Nat} {oa:Option Nat} {s:Is},IrV c b mo t H o oa s→oa.isSome = false→s.o = []:=by
  intro H t o oa s h h1
  cases oa with
  | some a=>cases h1
  | none=>obtain ⟨⟨vo,τ1,τ,_,_,_,ho⟩,_⟩:=h;exact ho.1
 obtain ⟨π'',S',v0,H',τf,hE,hτf,hI',hok',hid,⟨s',w0,ps,r',hS',hv0,hr',hQ,hf,hmono,hiw⟩,hlen,hfix,hnew,hrest⟩:=Ev1.img (C:=X) (T:=evT X) (f:=f) (H:=H) (n:=n) (ys:=.ptr 0 0 0 0 :: ys)
  (Q:=fun S' v0=>∃ s' w0 ps r',S' = irS c b mo s' r' ++ ps.map rwF∧v0 = dh (irS c b mo s' r').length w0∧(r' = false→s'.o = [])∧Q s' w0 ps∧(∀ p ∈ ps,ids p = []∧tags p = [])∧(oa.isSome = true→r' = true)∧∀ k ∈ ids w0,k < ps.length) (bU X) hF hb hI (BP c b mo s _) hA2
  (by rw [show aA (AV.ptr 0 0 0 0 :: ys) = [0] by simp [aA,ids,hi]];exact BQ c b mo s _) (by simp;omega) hng (by
   intro E hEl hEI
   obtain ⟨oa1,hV,hπ1,hs1,EI⟩:=IrV.nS hEI (by rw [qR,if_pos hK]) (hso h)
   have ha1:∀ a,oa1 = some a→a = 1:=by
    intro a ha
    obtain ⟨g,hg⟩:=EI a ha
    rw [qR] at hg
    split at hg
    ·simp at hg;omega
    ·cases hg
   obtain ⟨pq,hc2,out,hout,hrun⟩:=run (irS c b mo s oa.isSome).length E oa1 hs1 ha1 (by rw [hEl,fQ]) hV
   rw [hb] at hc2
   obtain rfl:=Option.some.inj hc2
   refine ⟨out,⟨hout.1,?_⟩,hrun⟩
   obtain ⟨s',oa',l,ex,ps,w0,hr,hV',hm,L6,hf,hnd,hw0,hw1,hw2,hw3,hw4,hQ⟩:=hout.2
   obtain ⟨π',hI',hπ',EJ⟩:=hV'.img
   have hnd':(π'.map Prod.fst ++ ex.map Prod.fst).Nodup:=by rw [hπ'];exact hnd
   have hI2:=hI'.append (BP c b mo s' _) L6 hf hnd'
   have hlr:=hI'.len
   have Zu:=L6.len
   have S9:(irS c b mo s' oa'.isSome ++ ps.map rwF).length = (irS c b mo s' oa'.isSome).length + ex.length:=by simp [Zu]
   have agl:(irS c b mo s oa.isSome).length≤(irS c b mo s' oa'.isSome).length:=by
    rw [fQ,fQ]
    cases hx:oa1 with
    | none=>rw [← hs1,hx];cases oa'.isSome <;> simp
    | some a=>rw [hm a hx];split <;> simp
   have jP:=Td (irS c b mo s' oa'.isSome).length w0
   have hfuel:(List.range (irS c b mo s oa.isSome).length ++ ids (dh (irS c b mo s' oa'.isSome).length w0)).length + wtF [] 0 (irS c b mo s' oa'.isSome ++ ps.map rwF)≤aB:=by
    rw [Jq,EK,jP]
    have h1:=Zt (c:=c) (b:=b) (mo:=mo) s' oa'.isSome 0
    have h2:(irS c b mo s oa.isSome).length≤2:=by rw [fQ];split <;> omega
    simp only [List.length_append,List.length_range,List.length_map]
    show _≤100000
    omega
   refine ⟨π' ++ ex,irS c b mo s' oa'.isSome ++ ps.map rwF,dh (irS c b mo s' oa'.isSome).length w0,l,hr,?_,hI2,(BP c b mo s' _).rows hf,?_,?_,by rw [S9];omega,?_,?_,?_,s',w0,ps,oa'.isSome,rfl,rfl,hso hV',hQ,hf,?_,fun k hk=>by rw [← Zu];exact hw1 k hk⟩
   ·rw [Tf hlr];exact hw4
   ·rw [EL];exact hw3
   ·intro k hk
    rw [jP] at hk
    obtain ⟨k',hk',rfl⟩:=List.mem_map.1 hk
    have:=hw1 k' hk'
    rw [S9]
    omega
   ·intro k hk
    rw [fQ] at hk
    have hk0:k = 0∨(k = 1∧oa.isSome = true):=by
     split at hk
     ·rename_i hq
      have:k = 0∨k = 1:=by omega
      rcases this with h | h
      ·exact .inl h
      ·exact .inr ⟨h,hq⟩
     ·exact .inl (by omega)
    have agm:0 < π'.length:=by rw [hlr,fQ];split <;> omega
    rcases hk0 with rfl | ⟨rfl,hq⟩
    ·exact ⟨0,by rw [List.getElem?_append_left agm];exact EJ⟩
    ·rw [← hs1] at hq
     obtain ⟨a,ha⟩:=Option.isSome_iff_exists.1 hq
     have:=ha1 a ha
     subst this
     have Vk:=hm 1 ha
     have h1:(π'.map Prod.fst)[1]? = some 1:=by rw [hπ',Vk];rfl
     rw [List.getElem?_map] at h1
     cases hp:π'[1]? with
     | none=>rw [hp] at h1;cases h1
     | some x =>
      rw [hp] at h1
      simp at h1
      exact ⟨x.2,by rw [List.getElem?_append_left (eY hp),hp,← h1]⟩
   ·intro k ob ob' h1 h2
    have hkl:=eY h1
    rw [List.getElem?_append_left (by omega)] at h2
    cases hx:oa.isSome <;> cases hy:oa'.isSome <;> rw [hx] at h1 <;> rw [hy] at h2
    all_goals
     match k,h1,h2 with
     | 0,h1,h2 =>
      have e1:=Option.some.inj h1
      have e2:=Option.some.inj h2
      subst e1 e2;rfl
     | 1,h1,h2=>first | (simp [irS] at h1;done) | (simp [irS] at h2;done) | (
      have e1:=Option.some.inj h1
      have e2:=Option.some.inj h2
      subst e1 e2;rfl)
     | k + 2,h1,h2=>simp [irS] at h1
   ·intro k hk1 hk2
    rw [S9] at hk2
    by_cases hkr:k < (irS c b mo s' oa'.isSome).length
    ·have hk:k = 1∧oa'.isSome = true:=by
      rw [fQ] at hkr hk1
      cases hx:oa'.isSome
      ·rw [hx] at hkr;simp at hkr;split at hk1 <;> omega
      ·rw [hx] at hkr;simp at hkr;split at hk1
       ·omega
       ·exact ⟨by omega,rfl⟩
     obtain ⟨rfl,hy⟩:=hk
     refine Hw hfuel (x:=0) (ob:=bJ c b mo s' (.sl 1 0 s'.o.length 0) 0 0) (uO hfuel (List.mem_append_left _ (List.mem_range.2 hK)) (by rw [S9];omega)) ?_ (by simp [kids,bJ,ids,aA]) (by rw [S9];omega)
     rw [List.getElem?_append_left (by omega),hy];rfl
    ·refine uO hfuel (List.mem_append_right _ ?_) (by rw [S9];omega)
     rw [jP]
     exact List.mem_map.2 ⟨k - (irS c b mo s' oa'.isSome).length,hw2 _ (by omega),by omega⟩
   ·intro hq
    rw [← hs1] at hq
    obtain ⟨a,ha⟩:=Option.isSome_iff_exists.1 hq
    rw [hm a ha];rfl)
 subst hS' hv0
 obtain ⟨g0,hg0⟩:=hfix 0 o 0 hπ0
 have hI3:=hI'.pre (BP c b mo s' r')
 have hRw:=hI'.rows hf
 have Vl:g0 = 0:=by
  obtain ⟨o',g',ob,q1,q2,q3⟩:=hI3.ob 0 _ (by cases r' <;> rfl:(irS c b mo s' r')[0]? = some (bJ c b mo s' (if r' then .sl 1 0 s'.o.length 0 else .ro 0 .pn 0) 0 0))
  rw [List.getElem?_take] at q1
  split at q1
  ·rw [hg0] at q1
   simp only [Option.some.injEq,Prod.mk.injEq] at q1
   obtain ⟨_,rfl⟩:=q1
   exact (q3.bx rfl).2.2
  ·cases q1
 subst Vl
 have hrl:0 < (irS c b mo s' r').length:=by rw [fQ];split <;> omega
 obtain ⟨oa',hV',Vm,hs',hat'⟩:=IrV.nS hI3 (by rw [List.getElem?_take,if_pos hrl];exact hg0) hr'
 rw [OQ] at hE
 have agl:(irS c b mo s oa.isSome).length≤(irS c b mo s' r').length:=by
  rw [fQ,fQ]
  cases hx:oa.isSome
  ·simp;split <;> omega
  ·rw [hmono hx];simp
 refine ⟨H',oa',s',w0,_,ps,τf,dX hE,?_,hV',hRw,?_,?_,hQ,⟨hlen,?_,?_,?_⟩⟩
 ·intro k hk
  exact hτf k (by rw [EL];exact hk)
 ·intro x hx
  obtain ⟨k,hk,rfl⟩:=List.mem_iff_getElem.1 hx
  rw [List.getElem_drop]
  have hkl:(irS c b mo s' r').length + k < π''.length:=by simp at hk;omega
  exact hnew ((irS c b mo s' r').length + k) _ _ (by omega) (List.getElem?_eq_getElem hkl)
 ·have:=hI'.nodup
  rw [show π''.map Prod.fst = (π''.take (irS c b mo s' r').length).map Prod.fst ++ (π''.drop (irS c b mo s' r').length).map Prod.fst by rw [← List.map_append,List.take_append_drop],Vm] at this
  exact this
 ·intro a ha
  subst ha
  cases oa' with
  | none =>
   have:=hmono rfl
   rw [this] at hs';cases hs'
  | some a' =>
   obtain ⟨g,hg⟩:=hat' a' rfl
   rw [List.getElem?_take] at hg
   split at hg
   ·have h1:(π.map Prod.fst)[1]? = some a:=by rw [hπ];rfl
    rw [List.getElem?_map] at h1
    cases hp:π[1]? with
    | none=>rw [hp] at h1;cases h1
    | some x =>
     rw [hp] at h1
     simp at h1
     obtain ⟨g2,hg2⟩:=hfix 1 x.1 x.2 hp
     rw [hg] at hg2
     simp at hg2
     rw [hg2.1,h1]
   ·cases hg
 ·intro a ha ha'
  subst ha ha'
  obtain ⟨g,hg⟩:=hat' a rfl
  rw [List.getElem?_take] at hg
  split at hg
  ·exact hnew 1 a g (by rw [fQ];simp) hg
  ·cases hg
 ·intro j hj hjo hja
  refine hrest j hj ?_
  intro k x g hk e
  have h1:x ∈ π.map Prod.fst:=List.mem_map.2 ⟨(x,g),List.mem_of_getElem? hk,rfl⟩
  rw [hπ] at h1
  rcases List.mem_cons.1 h1 with h1 | h1
  ·exact hjo (e.trans h1)
  ·cases oa with
   | none=>simp at h1
   | some a =>
    simp at h1
    exact hja a rfl (e.trans h1)
end
end Go.Proofs.Ytcllinmgllmpmaa
namespace Go.Proofs.Ytcllinmgllmpmaa
open Go.AM
section
variable {c:Nat} {b:List UInt8} {mo:Int} {N t:Nat} {H:AM.Heap} {o lb nb rb:Nat} {la oa:Option Nat} {acc:List Int} {s:Is}
theorem Zv {m cl:Nat} {L:List Int} {E:AM.Heap} {fr:AM.Frame} (hf:LeF cl L rb nb lb fr) (h:AgV c b mo (N:Nat) t E lb nb rb 0 la oa acc s):∃ code,((Try.f68.body).bind (aI [1,1,1,0,0,0,0,0])) = some code∧Run X (evT X) 68 m code fr E ⟨.normal,dI cl L rb nb lb ++ [(24,.bool (decide (acc.length < N) && (s.e == 0)))],E⟩:=by
 refine ⟨_,rfl,?_⟩
 obtain ⟨f1,f3,f5,f7,f8⟩:=hf
 obtain ⟨lv,τ,hτ,hb,hL⟩:=h.l
 obtain ⟨τ2,hτ2,hb2⟩:=h.n
 obtain ⟨τ3,hτ3,hb3⟩:=h.r
 obtain ⟨⟨vo,τ1,τr,a1,a2,h0,ho⟩,hne⟩:=h.d
 simp only [bJ,bxO] at h0 hb hb2 hb3
 have hd:decide (acc.length < N) = decide ((acc.length:Int) < (N:Int)):=by
  by_cases h1:acc.length < N
  ·rw [decide_eq_true h1,decide_eq_true (by omega)]
  ·rw [decide_eq_false h1,decide_eq_false (by omega)]
 rw [hd]
 simp only [dI]
 cases la with
 | none =>
  obtain ⟨h1,τ4,hτ4,rfl⟩:=hL
  rw [h1]
  simp only [List.length_nil]
  by_cases hN:0 < N
  ·by_cases he:s.e = 0
   ·rw [he] at h0 ⊢
    (refine ⟨0,?_⟩;simp (maxSteps:=2000000) -implicitDefEqProofs [-getElem?_pos,go_sem,eqV,ah,f1,f3,f5,f7,f8,hb,hb2,hb3,h0,hN])
   ·have heb:(s.e == 0) = false:=by simpa using he
    (refine ⟨0,?_⟩;simp (maxSteps:=2000000) -implicitDefEqProofs [-getElem?_pos,go_sem,eqV,ah,f1,f3,f5,f7,f8,hb,hb2,hb3,h0,hN,he,heb])
  ·(refine ⟨0,?_⟩;simp (maxSteps:=2000000) -implicitDefEqProofs [-getElem?_pos,go_sem,eqV,ah,f1,f3,f5,f7,f8,hb,hb2,hb3,h0,hN])
 | some a =>
  obtain ⟨g,τ4,ob,hτ4,rfl,h3,h4⟩:=hL
  have hg:=h4.g
  generalize acc.length = q at *
  by_cases hN:(q:Int) < (N:Int)
  ·by_cases he:s.e = 0
   ·rw [he] at h0 ⊢
    (refine ⟨0,?_⟩;simp (maxSteps:=2000000) -implicitDefEqProofs [-getElem?_pos,go_sem,eqV,ah,f1,f3,f5,f7,f8,hb,hb2,hb3,h0,h3,hg,hN])
   ·have heb:(s.e == 0) = false:=by simpa using he
    (refine ⟨0,?_⟩;simp (maxSteps:=2000000) -implicitDefEqProofs [-getElem?_pos,go_sem,eqV,ah,f1,f3,f5,f7,f8,hb,hb2,hb3,h0,h3,hg,hN,he,heb])
  ·(refine ⟨0,?_⟩;simp (maxSteps:=2000000) -implicitDefEqProofs [-getElem?_pos,go_sem,eqV,ah,f1,f3,f5,f7,f8,hb,hb2,hb3,h0,h3,hg,hN])
def nlO:AM.Obj:=⟨.pi .i64 [],0,none,0,true,false,0⟩
theorem Zw {b:List UInt8} {N:Nat} {acc:List Int} {j:Nat} {k k':Nat} {o o':List UInt8} {a:List Int} (h:DK b N acc j k o = .ok a k' o') (hk:k≤8 * b.length):k≤k':=((QA N acc j).up b 0 k o a k' o' h hk).1
theorem Jr {m cl F:Nat} {L:List Int} {E:AM.Heap} (h:IrV c b mo t E 0 oa s) (hs:fM b mo s) (hb:b.length≤100000) (he:s.e = 0) (hN:N≤400) (hF:8 * b.length < F) (hLl:L.length < 9223372036854775808):∃ code,Try.f68.body = some code ∧
  aj (qo fun fr E'=>∃ lv la' oa' acc' s',au fr 6 = lv∧IrV c b mo t E' 0 oa' s'∧LsV t E' la' lv acc'∧(∀ a,oa = some a→oa' = some a)∧(∀ a,la' = some a→a ≠ 0∧∀ x,oa' = some x→a ≠ x)∧gB b mo (uP b L N F []) s s' acc') X (evT X) 68 m code [(0,.ptr 0 0 0 0),(1,.ro cl (.pi .i64 L) 2),(2,.int .i64 (N:Nat))] E:=by
 refine ⟨_,rfl,?_⟩
 have hlt:=h.lt
 apply aj.seq (fr':=[(1,.ro cl (.pi .i64 L) 2),(3,.ptr E.length 0 0 0),(5,.ptr (E.length + 1) 0 0 0)]) (H':=E ++ [some (bxO (.ptr 0 0 0 0) 0),some (bxO (.int .i64 (N:Nat)) 0),some nlO])
 ·simp only [bxO,nlO]
  (refine ⟨0,?_⟩;simp (maxSteps:=2000000) -implicitDefEqProofs [-getElem?_pos,go_sem,eqV,ah,ak,rowOf,bT])
 apply aj.seq (fr':=[(1,.ro cl (.pi .i64 L) 2),(3,.ptr E.length 0 0 0),(5,.ptr (E.length + 1) 0 0 0),(7,.ptr (E.length + 3) 0 0 0)]) (H':=E ++ [some (bxO (.ptr 0 0 0 0) 0),some (bxO (.int .i64 (N:Nat)) 0),some nlO,some (bxO (.ro 0 .pn 0) 0)])
 ·simp only [bxO,nlO]
  (refine ⟨0,?_⟩;simp (maxSteps:=2000000) -implicitDefEqProofs [-getElem?_pos,go_sem,eqV,ah])
 apply aj.seq (fr':=dI cl L E.length (E.length + 1) (E.length + 3)) (H':=E ++ [some (bxO (.ptr 0 0 0 0) 0),some (bxO (.int .i64 (N:Nat)) 0),some nlO,some (bxO (.ro 0 .pn 0) 0)])
 ·simp only [dI]
  (refine ⟨0,?_⟩;simp (maxSteps:=2000000) -implicitDefEqProofs [-getElem?_pos,go_sem,eqV,ah,scalars,ak])
 have hV0:AgV c b mo (N:Nat) t (E ++ [some (bxO (.ptr 0 0 0 0) 0),some (bxO (.int .i64 (N:Nat)) 0),some nlO,some (bxO (.ro 0 .pn 0) 0)]) (E.length + 3) (E.length + 1) E.length 0 none oa [] s:=by
  refine ⟨⟨.ro 0 .pn 0,0,.inl rfl,by rw [List.getElem?_append_right (by omega),show E.length + 3 - E.length = 3 by omega];rfl,rfl,0,.inl rfl,rfl⟩,⟨0,.inl rfl,by rw [List.getElem?_append_right (by omega),show E.length + 1 - E.length = 1 by omega];rfl⟩,⟨0,.inl rfl,by rw [List.getElem?_append_right (by omega),Nat.sub_self];rfl⟩,h.cat,?_⟩
  have h0:=hlt.1
  cases oa with
  | none =>
   clear hlt
   generalize E.length = q at *
   simp;omega
  | some z =>
   have h1:=hlt.2 z rfl
   have h2:=h.ne z rfl
   clear hlt
   generalize E.length = q at *
   simp;omega
 generalize E ++ [some (bxO (.ptr 0 0 0 0) 0),some (bxO (.int .i64 (N:Nat)) 0),some nlO,some (bxO (.ro 0 .pn 0) 0)] = E4 at *
 generalize E.length + 3 = lb at *
 generalize E.length + 1 = nb at *
 generalize E.length = rb at *
 apply aj.tV (P:=fun fr E'=>∃ la' oa' acc' s',fr = dI cl L rb nb lb ++ [(24,.bool false)]∧AgV c b mo (N:Nat) t E' lb nb rb 0 la' oa' acc' s'∧(∀ a,oa = some a→oa' = some a)∧gB b mo (uP b L N F []) s s' acc')
 ·refine aj.mono (Q:=Exits 0 fun fr E'=>∃ la' oa' acc' s',fr = dI cl L rb nb lb ++ [(24,.bool false)]∧AgV c b mo (N:Nat) t E' lb nb rb 0 la' oa' acc' s'∧(∀ a,oa = some a→oa' = some a)∧gB b mo (uP b L N F []) s s' acc') ?_ fun o h=>.inl h
  refine aj.kF (I:=fun q fr E'=>∃ la' oa' acc' s' f,q = (if s'.e = 0 then 8 * b.length - s'.k + 1 else 0)∧LeF cl L rb nb lb fr∧AgV c b mo (N:Nat) t E' lb nb rb 0 la' oa' acc' s'∧(∀ a,oa = some a→oa' = some a)∧acc'.length≤N + 1∧fM b mo s'∧(s'.e = 0→8 * b.length < f + s'.k)∧(∀ s2 a,gB b mo (uP b L N f acc') s' s2 a→gB b mo (uP b L N F []) s s2 a)) ?_ (k:=if s.e = 0 then 8 * b.length - s.k + 1 else 0) ⟨none,oa,[],s,F,rfl,LeF.of rfl,hV0,fun _ h=>h,by simp,hs,fun _=>by omega,fun _ _ h=>h⟩
  rintro q fr E' ⟨la',oa',acc',s',f,rfl,hfr,hV,hm,hlen,hs',hf,hC⟩
  have h3:=Zv (m:=m) hfr hV
  by_cases hgo:acc'.length < N∧s'.e = 0
  ·obtain ⟨f,rfl⟩:∃ f',f = f' + 1:=⟨f - 1,by have:=hs'.1;have:=hf hgo.2;omega⟩
   obtain ⟨E2,la2,oa2,wF,s2,v1,v2,v3,v4,fr2,v5,v6⟩:=XE (m:=m) (cl:=cl) (L:=L) hV hs' hb hgo.2 (by omega) hgo.1 hLl
   have hup:s2.e = 0→s'.k < s2.k:=by
    intro he2
    obtain ⟨_,hok⟩:=v2.fine he2
    obtain ⟨j,k1,o1,e1,e2⟩:=jh hok
    obtain ⟨u1,u2,_,_⟩:=Va e1
    have u3:=((zT L).up b mo s'.k s'.o _ _ _ e1 hs'.1).2.1
    have:=Zw e2 u3
    omega
   refine aj.of (o:=⟨.normal,fr2,E2⟩) ?_ (.inl ⟨rfl,_,?_,la2,oa2,wF,s2,f,rfl,v5,v1,fun a ha=>v4 a (hm a ha),v3,v2.1,?_,?_⟩)
   ·rw [decide_eq_true hgo.1,hgo.2] at h3
    apply Run.seq (fr':=dI cl L rb nb lb ++ [(24,.bool true)]) (H':=E')
    ·apply Run.seq (piece h3 _ rfl)
     refine ⟨0,?_⟩
     simp only [dI]
     simp (maxSteps:=2000000) -implicitDefEqProofs [-getElem?_pos,go_sem,eqV,ah]
    exact piece v6 _ rfl
   ·rw [if_pos hgo.2]
    split
    ·rename_i he2
     have:=hup he2
     have:=v2.1.1
     omega
    ·omega
   ·intro he2
    have:=hup he2
    have:=hf hgo.2
    omega
   ·intro s3 a ha
    refine hC s3 a ?_
    unfold uP
    rw [if_neg (by omega)]
    rw [← EH]
    exact v2.bnd (f:=fun a2=>uP b L N f a2) ha
  ·refine aj.of (o:=⟨.exit 0,dI cl L rb nb lb ++ [(24,.bool false)],E'⟩) ?_ (.inr ⟨by simp,rfl,la',oa',acc',s',rfl,hV,hm,hC _ _ ?_⟩)
   ·have hd:(decide (acc'.length < N) && (s'.e == 0)) = false:=by
     by_cases h1:acc'.length < N
     ·have:¬ s'.e = 0:=fun h=>hgo ⟨h1,h⟩
      simp [this]
     ·simp [h1]
    rw [hd] at h3
    apply Run.bH
    ·apply Run.seq (piece h3 _ rfl)
     refine ⟨0,?_⟩
     simp only [dI]
     simp (maxSteps:=2000000) -implicitDefEqProofs [-getElem?_pos,go_sem,eqV,ah]
    ·simp
   ·by_cases h1:s'.e = 0
    ·have hge:N≤acc'.length:=by
      refine Classical.byContradiction fun h=>?_
      exact hgo ⟨by omega,h1⟩
     obtain ⟨f,rfl⟩:∃ f',f = f' + 1:=⟨f - 1,by have:=hs'.1;have:=hf h1;omega⟩
     refine ⟨hs',?_⟩
     rw [if_pos h1]
     unfold uP
     rw [if_pos hge]
     exact ⟨by rw [← h1],rfl⟩
    ·exact gB.stop hs' h1
 ·rintro fr E' ⟨la',oa',acc',s',rfl,hV,hm,hR⟩
  obtain ⟨n1,n2,n3,n4,n5,n6,n7,n8⟩:=hV.ne
  obtain ⟨lv,τ,hτ,hbx,hL⟩:=hV.l
  simp only [bxO] at hbx
  have hne:∀ a,la' = some a→a ≠ 0∧∀ x,oa' = some x→a ≠ x:=fun a ha=>⟨Ne.symm (n7 a ha).2.2.2.1,(n7 a ha).2.2.2.2⟩
  cases la' with
  | some a =>
   obtain ⟨g,τ4,ob,hτ4,rfl,q3,q4⟩:=hL
   refine aj.of (o:=⟨.ret,[(6,.sl a 0 acc'.length g)],E'⟩) ?_ ⟨rfl,_,some a,oa',acc',s',rfl,hV.d,⟨g,τ4,ob,hτ4,rfl,q3,q4⟩,hm,hne,hR⟩
   refine ⟨0,?_⟩
   simp only [dI]
   generalize acc'.length = M at *
   simp (maxSteps:=2000000) -implicitDefEqProofs [-getElem?_pos,go_sem,eqV,ah,hbx,ak]
  | none =>
   obtain ⟨hacc,τ4,hτ4,rfl⟩:=hL
   by_cases ht0:τ4 = 0
   ·subst ht0
    have hat:(E' ++ [some nlO])[E'.length]? = some (some nlO):=by simp
    refine aj.of (o:=⟨.ret,[(6,.sl E'.length 0 0 0)],E' ++ [some nlO]⟩) ?_ ⟨rfl,_,some E'.length,oa',acc',s',rfl,hV.d.cat,⟨0,0,nlO,.inl rfl,by rw [hacc];rfl,hat,by rw [hacc];exact ⟨rfl,rfl,rfl,rfl,rfl⟩⟩,hm,?_,hR⟩
    ·refine ⟨0,?_⟩
     simp only [dI,nlO]
     simp (maxSteps:=2000000) -implicitDefEqProofs [-getElem?_pos,go_sem,eqV,ah,hbx,ak,rowOf,bT]
    ·intro a ha
     cases ha
     have:=hV.lt
     exact ⟨by omega,fun x hx=>by have:=this.2.2.2.2.2 x hx;omega⟩
   ·refine aj.of (o:=⟨.ret,[(6,.ro 0 .pn τ4)],E'⟩) ?_ ⟨rfl,_,none,oa',acc',s',rfl,hV.d,⟨hacc,τ4,hτ4,rfl⟩,hm,(fun a ha=>by cases ha),hR⟩
    refine ⟨0,?_⟩
    simp only [dI]
    simp (maxSteps:=2000000) -implicitDefEqProofs [-getElem?_pos,go_sem,eqV,ah,hbx,ak,ht0]
end
end Go.Proofs.Ytcllinmgllmpmaa
namespace Go.Proofs.Ytcllinmgllmpmaa
open Go.AM
section
variable {c:Nat} {b:List UInt8} {mo:Int} {N t:Nat} {H:AM.Heap} {o:Nat} {oa:Option Nat} {s:Is}
theorem OT {F:Nat} {L:List Int} {a:AV} (h:IrV c b mo t H o oa s) (hs:fM b mo s) (hb:b.length≤100000) (he:s.e = 0) (hN:N≤400) (hF:8 * b.length < F) (hLl:L.length < 9223372036854775808) (ha:dP H a = some (.pi .i64 L)) (hd:∀ x ∈ slO a,x ≠ o∧∀ y,oa = some y→x ≠ y) :
  ∃ H' oa' s' acc v la,evT X 68 [.ptr o 0 0 0,a,.int .i64 (N:Nat)] H = some (v,H')∧IrV c b mo t H' o oa' s'∧LsV t H' la v acc∧gB b mo (uP b L N F []) s s' acc∧Kpt H H' o oa oa'∧(∀ x,la = some x→H.length≤x∧x ≠ o∧∀ y,oa' = some y→x ≠ y):=by
 obtain ⟨code,hc⟩:∃ code,Try.f68.body = some code:=⟨_,rfl⟩
 obtain ⟨H',oa',s',w0,ex,ps,τf,hE,hτ,hV,hR,hnew,hnd,⟨acc,hrun,hw⟩,hk⟩:=BO (f:=68) (n:=4) (xs:=[a,.int .i64 (N:Nat)]) (ys:=[.ro (rC H a) (.pi .i64 L) 2,.int .i64 (N:Nat)]) (Q:=fun s' w0 ps=>∃ acc,gB b mo (uP b L N F []) s s' acc∧((ps = [.pi .i64 acc]∧w0 = .sl 0 0 acc.length 0)∨(ps = []∧acc = []∧∃ τ,w0 = .ro 0 .pn τ)))
  Try.func68 hc rfl h (fun π K hπ=>fK.UR rfl ha rfl (by
   rw [hπ]
   refine iF.2 ?_
   intro x hx hx2
   obtain ⟨h1,h2⟩:=hd x hx
   rcases List.mem_cons.1 hx2 with h3 | h3
   ·exact h1 h3
   ·exact h2 x (by simpa using h3) rfl) (fK.flat rfl rfl fK.nil)) rfl rfl (by simp [dG]) (by
   intro m E oa1 _ _ _ hE
   obtain ⟨pq,hc2,ht⟩:=Jr (m:=m) (cl:=rC H a) (F:=F) (L:=L) (N:=N) hE hs hb he hN hF hLl
   refine ⟨pq,hc2,?_⟩
   rw [abA]
   refine ht.mono ?_
   rintro out ⟨ho1,lv,la',oa',acc',s',q1,q2,q3,q4,q5,q6⟩
   refine ⟨.inr ho1,?_⟩
   cases la' with
   | some x =>
    obtain ⟨g,τ4,ob,hτ4,rfl,p3,p4⟩:=q3
    obtain ⟨u1,u2⟩:=q5 x rfl
    refine ⟨s',oa',[.sl x 0 acc'.length g],[(x,g)],[.pi .i64 acc'],.sl 0 0 acc'.length 0,?_,q2,q4,⟨⟨τ4,ob,hτ4,p3,p4⟩,trivial⟩,?_,?_,by simp [ids],by simp [ids],by simp [ids],by simp [tags],by simp [aO,ren,eP],acc',q6,.inl ⟨rfl,rfl⟩⟩
    ·show aP X out.fr out.H [.tmp 6] = _
     simp [aP,q1]
    ·intro p hp
     simp at hp
     subst hp
     exact ⟨rfl,rfl⟩
    ·have hne:=q2.ne
     cases oa' with
     | none=>simp;omega
     | some y =>
      have h1:=hne y rfl
      have h2:=u2 y rfl
      simp;omega
   | none =>
    obtain ⟨rfl,τ4,hτ4,rfl⟩:=q3
    refine ⟨s',oa',[.ro 0 .pn τ4],[],[],.ro 0 .pn τ4,?_,q2,q4,trivial,by simp,?_,by simp [ids],by simp [ids],by simp,by simp [tags];exact hτ4,by simp [aO,ren],[],q6,.inr ⟨rfl,rfl,τ4,rfl⟩⟩
    ·show aP X out.fr out.H [.tmp 6] = _
     simp [aP,q1]
    ·have hne:=q2.ne
     cases oa' with
     | none=>simp
     | some y =>
      have h1:=hne y rfl
      simp;omega)
 rcases hw with ⟨rfl,rfl⟩ | ⟨rfl,rfl,τ,rfl⟩
 ·match ex,hR with
  | [(x,g)],hR =>
   obtain ⟨⟨τ4,ob,h4,h5,h6⟩,_⟩:=hR
   refine ⟨H',oa',s',acc,.sl x 0 acc.length g,some x,by simpa [ren,eP] using hE,hV,⟨g,τ4,ob,h4,rfl,h5,h6⟩,hrun,hk,?_⟩
   intro y hy
   cases hy
   refine ⟨hnew (x,g) (List.mem_singleton.2 rfl),?_,?_⟩
   ·intro e
    subst e
    simp at hnd
   ·intro y hy e
    subst hy e
    simp at hnd
 ·match ex,hR with
  | [],_ =>
   exact ⟨H',oa',s',[],.ro 0 .pn (τf τ),none,by simpa [ren] using hE,hV,⟨rfl,_,hτ τ (by simp [tags]),rfl⟩,hrun,hk,fun x h=>by cases h⟩
end
end Go.Proofs.Ytcllinmgllmpmaa
namespace Go.Proofs.Ytcllinmgllmpmaa
open Go.AM
def pJ:List Int→Nat
 | []=>0
 | x :: r=>(if 0 < x then 1 else 0) + pJ r
def nV:List Int→Int
 | []=>0
 | x :: r=>(if 0 < x then x else 0) + nV r
theorem L8:∀ l,pJ l = (l.filter (0 < ·)).length
 | []=>rfl
 | x :: r=>by
  unfold pJ
  rw [L8 r]
  by_cases h:0 < x
  ·simp [h];omega
  ·simp [h]
theorem zZ:∀ l:List Int,(pJ l:Int)≤nV l
 | []=>by simp [pJ,nV]
 | x :: r=>by
  have:=zZ r
  unfold pJ nV
  split <;> omega
theorem QB:∀ l:List Int,(∀ x ∈ l,x≤15)→nV l≤15 * l.length
 | [],_=>by simp [nV]
 | x :: r,h=>by
  have h1:=QB r fun y hy=>h y (List.mem_cons_of_mem _ hy)
  have h2:=h x (List.mem_cons_self ..)
  unfold nV
  simp only [List.length_cons]
  split <;> omega
theorem QC:∀ l,Gq l = (decide (pJ l = 1) && decide (nV l = 1))
 | []=>rfl
 | x :: r=>by
  have hp:=zZ r
  have hl:=L8 r
  have ih:=QC r
  unfold Gq at ih ⊢
  unfold pJ nV
  by_cases h:0 < x
  ·rw [List.filter_cons_of_pos (by simpa using h),if_pos h,if_pos h]
   by_cases h1:r.filter (0 < ·) = []
   ·rw [h1] at hl ⊢
    simp only [List.length_nil] at hl
    have hs:nV r = 0:=by
     have:∀ l:List Int,l.filter (0 < ·) = []→nV l = 0:=by
      intro l
      induction l with
      | nil=>intro _;rfl
      | cons y t iht =>
       intro hf
       by_cases hy:0 < y
       ·rw [List.filter_cons_of_pos (by simpa using hy)] at hf;cases hf
       ·rw [List.filter_cons_of_neg (by simpa using hy)] at hf
        unfold nV
        rw [if_neg hy,iht hf];rfl
     exact this r h1
    rw [hl,hs]
    by_cases hx:x = 1
    ·subst hx;rfl
    ·have e1:([x] == [1]) = false:=by simpa using hx
     have e2:decide (x + 0 = 1) = false:=by simpa using hx
     rw [e1,e2];simp
   ·have hne:(x :: r.filter (0 < ·) == [1]) = false:=by
     simp
     intro _
     simpa using h1
    have hc:¬ 1 + pJ r = 1:=by
     rw [hl]
     intro hz
     exact h1 (List.eq_nil_of_length_eq_zero (by omega))
    rw [hne,decide_eq_false hc];rfl
  ·rw [List.filter_cons_of_neg (by simpa using h),if_neg h,if_neg h,ih]
   simp
section
variable (cc:Nat) (l:List Int)
def L9 (i:Nat):AM.Frame:=[(3,.int .i64 (pJ (l.take i):Nat)),(4,.int .i64 (nV (l.take i))),(7,.ro cc (.pi .i64 l) 1),(8,.int .i64 (l.length:Nat)),(9,.int .i64 (i:Nat))]
theorem Hy:∀ (l:List Int) (x:Int),pJ (l ++ [x]) = pJ l + (if 0 < x then 1 else 0)
 | [],x=>by simp [pJ]
 | y :: r,x=>by rw [List.cons_append,pJ,pJ,Hy r x];omega
theorem Hz:∀ (l:List Int) (x:Int),nV (l ++ [x]) = nV l + (if 0 < x then x else 0)
 | [],x=>by simp [nV]
 | y :: r,x=>by rw [List.cons_append,nV,nV,Hz r x];omega
theorem Ti (hl:l.length≤320) (hf:fine l = true):∃ code,Try.f69.body = some code ∧
  aj (qo fun fr H=>fr = [(2,.bool (Gq l))]∧H = []) X (evT X) 69 0 code [(0,.ro cc (.pi .i64 l) 1)] []:=by
 refine ⟨_,rfl,?_⟩
 apply aj.seq
 ·(refine ⟨0,?_⟩;conv=>lhs;simp (maxSteps:=2000000) -implicitDefEqProofs [-getElem?_pos,go_sem,eqV,ah,ak])
 apply aj.seq
 ·(refine ⟨0,?_⟩;conv=>lhs;simp (maxSteps:=2000000) -implicitDefEqProofs [-getElem?_pos,go_sem,eqV,ah,ak])
 apply aj.assoc
 apply aj.seq (fr':=L9 cc l 0) (H':=[])
 ·simp only [L9,List.take_zero,pJ,nV]
  (refine ⟨0,?_⟩;simp (maxSteps:=2000000) -implicitDefEqProofs [-getElem?_pos,go_sem,eqV,ah])
 apply aj.tV (P:=fun fr H=>fr = L9 cc l l.length ++ [(10,.bool false)]∧H = [])
 ·refine aj.loop (σ:=Nat) (fun i=>i≤l.length) (fun i=>L9 cc l i) (fun _=>[]) (fun i=>l.length - i) ?_ 0 (by omega)
  intro i hi
  by_cases he:i = l.length
  ·right
   subst he
   refine ⟨⟨.exit 0,L9 cc l l.length ++ [(10,.bool false)],[]⟩,.inl ⟨rfl,rfl,rfl⟩,by simp,?_⟩
   simp only [L9]
   generalize pJ (l.take l.length) = p
   generalize nV (l.take l.length) = q
   (refine ⟨0,?_⟩;simp (maxSteps:=2000000) -implicitDefEqProofs [-getElem?_pos,go_sem,eqV,ah])
  ·left
   have hlt:i < l.length:=by omega
   have jU:(i:Int) < (l.length:Int):=by omega
   obtain ⟨x,hx⟩:∃ x,l[i]? = some x:=⟨l[i],List.getElem?_eq_getElem hlt⟩
   have hxm:x ∈ l:=List.mem_of_getElem? hx
   have hxr:0≤x∧x≤15:=by
    have:=List.all_eq_true.1 hf x hxm
    simpa using this
   have htk:l.take (i + 1) = l.take i ++ [x]:=by rw [List.take_add_one,hx];rfl
   have hc1:=Hy (l.take i) x
   have hs1:=Hz (l.take i) x
   have hle:=QB (l.take i) (fun y hy=>by
    have:=List.all_eq_true.1 hf y (List.mem_of_mem_take hy)
    simp at this;exact this.2)
   have hps:=zZ (l.take i)
   have hll:(l.take i).length≤320:=by rw [List.length_take];omega
   have w1:IntKind.i64.wrap ((i:Int) + 1) = ((i + 1:Nat):Int):=by rw [wrap_i64 (by omega) (by omega)];omega
   refine ⟨i + 1,by omega,?_,by omega⟩
   unfold L9
   rw [htk,hc1,hs1]
   have hcb:pJ (l.take i)≤5000:=by omega
   have w2:IntKind.i64.wrap ((pJ (l.take i):Int) + 1) = ((pJ (l.take i) + 1:Nat):Int):=by rw [wrap_i64 (by omega) (by omega)];omega
   have w3:IntKind.i64.wrap (nV (l.take i) + x) = nV (l.take i) + x:=wrap_i64 (by omega) (by omega)
   generalize pJ (l.take i) = p at *
   generalize nV (l.take i) = q at *
   by_cases h0:0 < x
   ·rw [if_pos h0,if_pos h0]
    generalize p + 1 = p1 at *
    (refine ⟨0,?_⟩;simp (maxSteps:=2000000) -implicitDefEqProofs [-getElem?_pos,go_sem,eqV,ah,jU,hlt,hx,h0,w1,w2,w3,ak])
   ·rw [if_neg h0,if_neg h0,Nat.add_zero,Int.add_zero]
    (refine ⟨0,?_⟩;simp (maxSteps:=2000000) -implicitDefEqProofs [-getElem?_pos,go_sem,eqV,ah,jU,hlt,hx,h0,w1,ak])
 ·rintro fr H ⟨rfl,rfl⟩
  refine aj.of (o:=⟨.ret,[(2,.bool (Gq l))],[]⟩) ?_ ⟨rfl,rfl,rfl⟩
  rw [QC]
  simp only [L9,List.take_length]
  have hps:=zZ l
  by_cases h1:pJ l = 1
  ·rw [decide_eq_true h1,Bool.true_and]
   by_cases h2:nV l = 1
   ·rw [h1,h2]
    (refine ⟨0,?_⟩;simp (maxSteps:=2000000) -implicitDefEqProofs [-getElem?_pos,go_sem,eqV,ah,ak])
   ·rw [h1,decide_eq_false h2]
    have h2b:(nV l == 1) = false:=by simpa using h2
    generalize nV l = q at *
    (refine ⟨0,?_⟩;simp (maxSteps:=2000000) -implicitDefEqProofs [-getElem?_pos,go_sem,eqV,ah,h2,h2b,ak])
  ·rw [decide_eq_false h1,Bool.false_and]
   have h1b:((pJ l:Int) == 1) = false:=by simp;omega
   have h1c:¬ ((pJ l:Int) = 1):=by omega
   generalize pJ l = p at *
   generalize nV l = q at *
   (refine ⟨0,?_⟩;simp (maxSteps:=2000000) -implicitDefEqProofs [-getElem?_pos,go_sem,eqV,ah,h1b,h1c,ak])
def Js (i:Nat):AM.Frame:=[(5,.ro cc (.pi .i64 l) 1),(6,.int .i64 (l.length:Nat)),(7,.int .i64 (i:Nat))]
theorem Tj (hl:l.length≤320):∃ code,Try.f70.body = some code ∧
  aj (qo fun fr H=>fr = [(2,.bool (Gs l))]∧H = []) X (evT X) 70 0 code [(0,.ro cc (.pi .i64 l) 1)] []:=by
 refine ⟨_,rfl,?_⟩
 apply aj.seq
 ·(refine ⟨0,?_⟩;conv=>lhs;simp (maxSteps:=2000000) -implicitDefEqProofs [-getElem?_pos,go_sem,eqV,ah,ak])
 apply aj.assoc
 apply aj.seq (fr':=Js cc l 0) (H':=[])
 ·(refine ⟨0,?_⟩;simp (maxSteps:=2000000) -implicitDefEqProofs [-getElem?_pos,go_sem,eqV,ah,Js])
 apply aj.tV (P:=fun fr H=>Gs l = true∧fr = Js cc l l.length ++ [(8,.bool false)]∧H = [])
 ·refine aj.loop (σ:=Nat) (fun i=>i≤l.length∧(l.take i).filter (0 < ·) = []) (fun i=>Js cc l i) (fun _=>[]) (fun i=>l.length - i) ?_ 0 ⟨by omega,rfl⟩
  rintro i ⟨hi,hfi⟩
  by_cases he:i = l.length
  ·right
   subst he
   refine ⟨⟨.exit 0,Js cc l l.length ++ [(8,.bool false)],[]⟩,.inl ⟨rfl,?_,rfl,rfl⟩,by simp,?_⟩
   ·rw [List.take_length] at hfi
    unfold Gs;rw [hfi];rfl
   simp only [Js]
   (refine ⟨0,?_⟩;simp (maxSteps:=2000000) -implicitDefEqProofs [-getElem?_pos,go_sem,eqV,ah])
  ·have hlt:i < l.length:=by omega
   have jU:(i:Int) < (l.length:Int):=by omega
   obtain ⟨x,hx⟩:∃ x,l[i]? = some x:=⟨l[i],List.getElem?_eq_getElem hlt⟩
   have w1:IntKind.i64.wrap ((i:Int) + 1) = ((i + 1:Nat):Int):=by rw [wrap_i64 (by omega) (by omega)];omega
   by_cases h0:0 < x
   ·right
    have hn:Gs l = false:=by
     unfold Gs
     have:x ∈ l.filter (0 < ·):=List.mem_filter.2 ⟨List.mem_of_getElem? hx,by simpa using h0⟩
     cases hq:l.filter (0 < ·) with
     | nil=>rw [hq] at this;cases this
     | cons y r=>rfl
    refine ⟨⟨.ret,[(2,.bool false)],[]⟩,.inr ⟨rfl,rfl,by rw [hn],rfl⟩,by simp,?_⟩
    simp only [Js]
    (refine ⟨0,?_⟩;simp (maxSteps:=2000000) -implicitDefEqProofs [-getElem?_pos,go_sem,eqV,ah,jU,hlt,hx,h0,ak])
   ·left
    refine ⟨i + 1,⟨by omega,?_⟩,?_,by omega⟩
    ·rw [List.take_add_one,hx,List.filter_append,hfi]
     simp;omega
    simp only [Js]
    (refine ⟨0,?_⟩;simp (maxSteps:=2000000) -implicitDefEqProofs [-getElem?_pos,go_sem,eqV,ah,jU,hlt,hx,h0,w1,ak])
 ·rintro fr H ⟨hn,rfl,rfl⟩
  refine aj.of (o:=⟨.ret,[(2,.bool (Gs l))],[]⟩) ?_ ⟨rfl,rfl,rfl⟩
  rw [hn]
  simp only [Js]
  (refine ⟨0,?_⟩;simp (maxSteps:=2000000) -implicitDefEqProofs [-getElem?_pos,go_sem,eqV,ah,ak])
end
theorem Vo {H:AM.Heap} {a:AV} {l:List Int} (h:dP H a = some (.pi .i64 l)) (hl:l.length≤320) (hf:fine l = true):evT X 69 [a] H = some (.bool (Gq l),H):=by
 obtain ⟨cc,x,hx⟩:=fV (C:=X) (f:=69) (i:=0) rfl h (fF 1)
 obtain ⟨code,hb,⟨ex,fr,H1⟩,⟨he,hfr,hH⟩,hr⟩:=Ti cc l hl hf
 simp only at he hfr hH
 subst he;subst hfr;subst hH
 exact dX (Ev1.plain (l:=[.bool (Gq l)]) (bU X) Try.func69 hb hx rfl (by simp [dG]) hr (.inr rfl) rfl rfl rfl)
theorem Zx {H:AM.Heap} {a:AV} {l:List Int} (h:dP H a = some (.pi .i64 l)) (hl:l.length≤320):evT X 70 [a] H = some (.bool (Gs l),H):=by
 obtain ⟨cc,x,hx⟩:=fV (C:=X) (f:=70) (i:=0) rfl h (fF 1)
 obtain ⟨code,hb,⟨ex,fr,H1⟩,⟨he,hfr,hH⟩,hr⟩:=Tj cc l hl
 simp only at he hfr hH
 subst he;subst hfr;subst hH
 exact dX (Ev1.plain (l:=[.bool (Gs l)]) (bU X) Try.func70 hb hx rfl (by simp [dG]) hr (.inr rfl) rfl rfl rfl)
def BR (l:List Int):AM.Obj:=⟨.pi .i64 l,0,.none,1,true,false,0⟩
def Vp:Row1:=⟨37,[],.tup [.sl 0 0 288 0,.sl 1 0 32 0],[some (BR Aa),some (BR yR)]⟩
theorem Vq:kJ X (Vp :: []):=kJ.cons (EM kJ.nil) kJ.nil (n:=400) (by kernel_rfl)
theorem XF (H:AM.Heap):evT X 37 [] H = some (.tup [.sl H.length 0 288 0,.sl (H.length + 1) 0 32 0],H ++ [some (BR Aa),some (BR yR)]):=by
 have:=dX (Ev1.frame (Vq Vp (List.mem_singleton.2 rfl)).1 rfl H)
 simpa [Vp,dh,kG,ren,aT,wI,BR,bn,Nat.add_comm] using this
end Go.Proofs.Ytcllinmgllmpmaa
namespace Go.Proofs.Ytcllinmgllmpmaa
open Go.AM
def tX (b:List UInt8) (mo:Int) {α β:Type} (m:PM α) (s1:Is) (m0:PM β) (s:Is) (f:α→β):Prop:=∀ s2 y,gB b mo m s1 s2 y→gB b mo m0 s s2 (f y)
theorem tX.step {b:List UInt8} {mo:Int} {α β γ:Type} {m:PM γ} {k:γ→PM α} {s1 s2:Is} {m0:PM β} {s:Is} {f:α→β} {x:γ} (h:tX b mo (dD m k) s1 m0 s f) (h2:gB b mo m s1 s2 x):tX b mo (k x) s2 m0 s f:=fun _ _ h3=>h _ _ (h2.bnd h3)
def Mc:List Int:=[16,17,18,0,8,7,9,6,10,5,11,4,12,3,13,2,14,1,15]
def orO (τ:Nat):AM.Obj:=⟨.pi .i64 Mc,0,some 19,1,false,false,τ⟩
theorem XG {i:Nat} (h:i < 19):∃ k:Nat,yS[i]? = some k∧Mc[i]? = some (k:Int)∧k < 19:=by
 have key:(List.range 19).all (fun i=>match yS[i]?,Mc[i]? with | some k,some x=>decide (x = (k:Int)) && decide (k < 19) | _,_=>false) = true:=by kernel_rfl
 have:=List.all_eq_true.1 key i (List.mem_range.2 h)
 have h1:i < yS.length:=h
 have h2:i < Mc.length:=h
 rw [List.getElem?_eq_getElem h1,List.getElem?_eq_getElem h2] at this ⊢
 simp only [Bool.and_eq_true,decide_eq_true_eq] at this
 exact ⟨yS[i],rfl,congrArg some this.1,this.2⟩
section
variable {c:Nat} {b:List UInt8} {mo:Int} {t:Nat} {H:AM.Heap} {o:Nat} {oa:Option Nat} {s:Is}
theorem abB:mO X 90 [(0,.int .i64 16),(1,.int .i64 17),(2,.int .i64 18),(3,.int .i64 0),(4,.int .i64 8),(5,.int .i64 7),(6,.int .i64 9),(7,.int .i64 6),(8,.int .i64 10),(9,.int .i64 5),(10,.int .i64 11),(11,.int .i64 4),(12,.int .i64 12),(13,.int .i64 3),(14,.int .i64 13),(15,.int .i64 2),(16,.int .i64 14),(17,.int .i64 1),(18,.int .i64 15)] = some (.agg (.pi .i64 Mc)):=by kernel_rfl
def sN (nl nd nc:Nat):AM.Frame:=[(0,.ptr 0 0 0 0),(4,.int .i64 (nl:Nat)),(5,.int .i64 (nd:Nat)),(6,.int .i64 (nc:Nat))]
theorem abC {m:Nat} {E:AM.Heap} (h:IrV c b mo t E 0 oa s) (hs:fM b mo s) (hb:b.length≤100000):∃ E' oa' s1 s2 s3,∃ nl nd nc:Nat,IrV c b mo t E' 0 oa' s3∧cO b mo (fO b 5) 0 s s1 (nl:Nat)∧cO b mo (fO b 5) 0 s1 s2 (nd:Nat)∧cO b mo (fO b 4) 0 s2 s3 (nc:Nat)∧nl < 32∧nd < 32∧nc < 16∧Kpt E E' 0 oa oa' ∧
  ∃ code,((Try.f38.body).bind (aI [1,0])) = some code∧Run X (evT X) 38 m code [(0,.ptr 0 0 0 0)] E ⟨.normal,sN (257 + nl) (1 + nd) (4 + nc),E'⟩:=by
 obtain ⟨E1,oa1,s1,nl,h1,h2,h3,h4⟩:=iZ (n:=5) (I:=5) rfl h hs hb (by omega)
 obtain ⟨a1,a2⟩:=iw h3 hs
 obtain ⟨nl,rfl⟩:∃ u':Nat,nl = (u':Int):=⟨nl.toNat,by omega⟩
 obtain ⟨E2,oa2,s2,nd,g1,g2,g3,g4⟩:=iZ (n:=5) (I:=5) rfl h2 h3.1 hb (by omega)
 obtain ⟨a3,a4⟩:=iw g3 h3.1
 obtain ⟨nd,rfl⟩:∃ u':Nat,nd = (u':Int):=⟨nd.toNat,by omega⟩
 obtain ⟨E3,oa3,s3,nc,k1,k2,k3,k4⟩:=iZ (n:=4) (I:=4) rfl g2 g3.1 hb (by omega)
 obtain ⟨a5,a6⟩:=iw k3 g3.1
 obtain ⟨nc,rfl⟩:∃ u':Nat,nc = (u':Int):=⟨nc.toNat,by omega⟩
 refine ⟨E3,oa3,s1,s2,s3,nl,nd,nc,k2,h3,g3,k3,by omega,by omega,by omega,(h4.trans g4).trans k4,_,rfl,?_⟩
 have w1:IntKind.i64.wrap (257 + (nl:Int)) = ((257 + nl:Nat):Int):=by rw [wrap_i64 (by omega) (by omega)];omega
 have w2:IntKind.i64.wrap (1 + (nd:Int)) = ((1 + nd:Nat):Int):=by rw [wrap_i64 (by omega) (by omega)];omega
 have w3:IntKind.i64.wrap (4 + (nc:Int)) = ((4 + nc:Nat):Int):=by rw [wrap_i64 (by omega) (by omega)];omega
 simp only [sN]
 generalize 257 + nl = x at *
 generalize 1 + nd = y at *
 generalize 4 + nc = z at *
 (refine ⟨0,?_⟩;simp (maxSteps:=2000000) -implicitDefEqProofs [-getElem?_pos,go_sem,eqV,ah,h1,g1,k1,w1,w2,w3,ak])
theorem abD {m nl nd nc:Nat} {E:AM.Heap} (h:IrV c b mo t E 0 oa s):∃ code,((Try.f38.body).bind (aI [1,1,0,0])) = some code∧Run X (evT X) 38 m code (sN nl nd nc) E ⟨.normal,sN nl nd nc ++ [(36,.bool (s.e == 0 && (decide (286 < nl) || decide (30 < nd))))],E⟩:=by
 refine ⟨_,rfl,?_⟩
 obtain ⟨⟨vo,τ1,τ,a1,a2,h0,ho⟩,hne⟩:=id h
 simp only [bJ] at h0
 simp only [sN]
 by_cases he:s.e = 0
 ·rw [he] at h0 ⊢
  by_cases h1:286 < nl
  ·have h1I:(286:Int) < (nl:Int):=by omega
   rw [decide_eq_true h1]
   (refine ⟨0,?_⟩;simp (maxSteps:=2000000) -implicitDefEqProofs [-getElem?_pos,go_sem,eqV,ah,h0,h1I])
  ·have h1I:¬ (286:Int) < (nl:Int):=by omega
   rw [decide_eq_false h1]
   by_cases h2:30 < nd
   ·have h2I:(30:Int) < (nd:Int):=by omega
    rw [decide_eq_true h2]
    (refine ⟨0,?_⟩;simp (maxSteps:=2000000) -implicitDefEqProofs [-getElem?_pos,go_sem,eqV,ah,h0,h1I,h2I])
   ·have h2I:¬ (30:Int) < (nd:Int):=by omega
    rw [decide_eq_false h2]
    (refine ⟨0,?_⟩;simp (maxSteps:=2000000) -implicitDefEqProofs [-getElem?_pos,go_sem,eqV,ah,h0,h1I,h2I])
 ·rw [show (s.e == 0) = false by simpa using he,Bool.false_and]
  have heb:(s.e == 0) = false:=by simpa using he
  (refine ⟨0,?_⟩;simp (maxSteps:=2000000) -implicitDefEqProofs [-getElem?_pos,go_sem,eqV,ah,h0,he,heb])
def uQ (p7 p8 nl nd nc i:Nat):AM.Frame:=[(0,.ptr 0 0 0 0),(4,.int .i64 (nl:Nat)),(5,.int .i64 (nd:Nat)),(7,.ptr p7 0 0 0),(8,.sl p8 0 19 0),(41,.int .i64 (nc:Nat)),(42,.int .i64 (i:Nat))]
theorem abE {m p7 p8 nl nd nc i τ7:Nat} {cl:List Int} {ob:AM.Obj} {E:AM.Heap} (h:IrV c b mo t E 0 oa s) (hs:fM b mo s) (hb:b.length≤100000) (h7:E[p7]? = some (some (orO τ7))) (h8:E[p8]? = some (some ob)) (hw:RwT (.pi .i64 cl) 0 0 ob) (hcl:cl.length = 19) (hi:i < 19)
  (n7:p7 ≠ 0) (n8:p8 ≠ 0) (n78:p7 ≠ p8) (o7:∀ a,oa = some a→p7 ≠ a) (o8:∀ a,oa = some a→p8 ≠ a) :
  ∃ E' oa' s' ob',∃ x:Int,∃ k:Nat,yS[i]? = some k∧IrV c b mo t E' 0 oa' s'∧cO b mo (fO b 3) 0 s s' x∧(∀ a,oa = some a→oa' = some a)∧(∀ a,oa' = some a→p7 ≠ a∧p8 ≠ a)∧E'[p7]? = some (some (orO τ7))∧E'[p8]? = some (some ob')∧RwT (.pi .i64 (cl.set k x)) 0 0 ob' ∧
   ∃ code,((Try.f38.body).bind (aI [1,1,1,1,1,0,1,0,0,1,1,0,0,1])) = some code∧Run X (evT X) 38 m code [(0,.ptr 0 0 0 0),(4,.int .i64 (nl:Nat)),(5,.int .i64 (nd:Nat)),(7,.ptr p7 0 0 0),(8,.sl p8 0 19 0),(9,.int .i64 (i:Nat)),(41,.int .i64 (nc:Nat)),(42,.int .i64 (i:Nat))] E ⟨.normal,uQ p7 p8 nl nd nc i,E'⟩:=by
 obtain ⟨k,hk,hkI,agn⟩:=XG hi
 obtain ⟨E1,oa1,s1,x,h1,h2,h3,h4⟩:=iZ (n:=3) (I:=3) rfl h hs hb (by omega)
 have Zy:=eY h7
 have agp:=eY h8
 have k7:E1[p7]? = some (some (orO τ7)):=by rw [h4.rest p7 Zy n7 o7];exact h7
 have k8:E1[p8]? = some (some ob):=by rw [h4.rest p8 agp n8 o8];exact h8
 have m7:∀ a,oa1 = some a→p7 ≠ a:=by
  intro a ha
  cases hq:oa with
  | none=>have:=h4.new a hq ha;omega
  | some z=>have:=h4.same z hq;rw [ha] at this;cases this;exact o7 _ hq
 have m8:∀ a,oa1 = some a→p8 ≠ a:=by
  intro a ha
  cases hq:oa with
  | none=>have:=h4.new a hq ha;omega
  | some z=>have:=h4.same z hq;rw [ha] at this;cases this;exact o8 _ hq
 refine ⟨AM.upd E1 p8 (some ⟨.pi .i64 (cl.set k x),0,ob.cap,ob.z,true,false,0⟩),oa1,s1,⟨.pi .i64 (cl.set k x),0,ob.cap,ob.z,true,false,0⟩,x,k,hk,h2.other n8 m8,h3,h4.same,fun a ha=>⟨m7 a ha,m8 a ha⟩,wB k7 (Ne.symm n78),setAt k8,⟨rfl,rfl,rfl,rfl,rfl⟩,_,rfl,?_⟩
 ·have hre:=h.reach
  have Y1:=IrV.off (o:=0) o7 n7
  have akY:=IrV.off (o:=0) o8 n8
  have q1:=hw.p;have q2:=hw.g;have q3:=hw.row;have q4:=hw.ids;have q5:=hw.tg
  have abG:((k:Nat):Int) < 19:=by omega
  have hiI:((i:Nat):Int) < 19:=by omega
  have hol:Mc.length = 19:=rfl
  generalize 0 :: oa.toList = L at *
  simp only [orO] at h7 k7
  simp only [uQ]
  generalize Mc = R at *
  apply Run.dy (by simp) Vr (by simp)
  ·(conv=>lhs;simp (maxSteps:=2000000) -implicitDefEqProofs [-getElem?_pos,go_sem,eqV,ah,jS,out1,bP,lD,jA,pushes,jE,ig,touched,mentioned,iR,fD,bZ,lF,Op.operands,ids,aA,aG,dS,dN,gI,jV,h7,h8,k8,hkI,h1,hre,hol,hiI,hi,abG,agn,q1,q2,q3,q4,q5,hcl,ak,iT])
   rfl
  ·refine jC (ps:=[(0,1),(0,2),(0,3),(0,4),(1,4),(2,4),(3,4),(0,5),(1,5),(2,5),(3,5)]) (by kernel_rfl) ?_
   by_cases hl:E1.length = E.length
   ·simp [vH,bear,disjoint,kX,Call.operands,aF,au,aA,ids,iT,hl,Y1,Zy]
   ·simp [vH,bear,disjoint,kX,Call.operands,aF,au,aA,ids,iT,hl,Y1,Zy]
  ·rfl
end
end Go.Proofs.Ytcllinmgllmpmaa
namespace Go.Proofs.Ytcllinmgllmpmaa
open Go.AM
section
variable {c:Nat} {b:List UInt8} {mo:Int} {t:Nat} {H:AM.Heap} {o:Nat} {oa:Option Nat} {s:Is}
def kP (a n k g:Nat):AM.Frame:=[(0,.ptr 0 0 0 0),(2,.sl a 0 n g),(3,.sl a n k g)]
theorem mP {E:AM.Heap} {a g τ off n:Nat} {ob:AM.Obj} {acc:List Int} (ha:E[a]? = some (some ob)) (hw:RwT (.pi .i64 acc) g τ ob) (hn:off + n≤acc.length):dP E (.sl a off n g) = some (.pi .i64 ((acc.drop off).take n)):=by
 simp [dP,live,ha,hw.g,hw.ids,hw.p,jd,hn]
theorem Zz {m a n k g τ:Nat} {acc:List Int} {ob:AM.Obj} {E:AM.Heap} (ha:E[a]? = some (some ob)) (hw:RwT (.pi .i64 acc) g τ ob) (hn:n≤acc.length) (LD:257≤n) (anE:acc.length≤400):∃ code,((Try.f38.body).bind (aI [1,1,1,1,1,1,1,1,1,1,1,1,0,0])) = some code ∧
  Run X (evT X) 38 m code (kP a n k g ++ [(13,.bool (bC (acc.take n)).1),(14,.int .i64 (bC (acc.take n)).2)]) E ⟨.normal,kP a n k g ++ [(109,.bool (!Ac (acc.take n)))],E⟩:=by
 refine ⟨_,rfl,?_⟩
 have hp:dP E (.sl a 0 n g) = some (.pi .i64 (acc.take n)):=by simpa using mP (off:=0) ha hw (by omega)
 obtain ⟨y,hy⟩:∃ y,acc[256]? = some y:=⟨_,List.getElem?_eq_getElem (by omega)⟩
 have hyd:(acc.take n).getD 256 0 = y:=by
  rw [List.getD_eq_getElem?_getD,List.getElem?_take,if_pos (by omega),hy];rfl
 have h256:(256:Int) < (n:Int):=by omega
 have QD:256 < n:=by omega
 have QE:256 < acc.length:=by omega
 have q1:=hw.p;have q2:=hw.g;have q4:=hw.ids
 by_cases he:(bC (acc.take n)).2 = 0
 ·have HY:=(o9 he)
  have hL:=Vo hp HY.1 HY.2
  unfold Ac
  rw [hyd]
  rw [he]
  generalize Gq (acc.take n) = lo at *
  generalize (bC (acc.take n)).1 = w at *
  simp only [kP]
  by_cases hy0:y = 0
  ·subst hy0
   (refine ⟨0,?_⟩;simp (maxSteps:=2000000) -implicitDefEqProofs [-getElem?_pos,go_sem,eqV,ah,ha,q1,q2,q4,h256,QD,QE,hy])
  ·have hyb:(y == 0) = false:=by simpa using hy0
   have ZA:(y != 0) = true:=by simpa using hy0
   cases w
   ·cases lo
    ·(refine ⟨0,?_⟩;simp (maxSteps:=2000000) -implicitDefEqProofs [-getElem?_pos,go_sem,eqV,ah,ha,q1,q2,q4,h256,QD,QE,hy,hy0,hyb,ZA,hL])
    ·(refine ⟨0,?_⟩;simp (maxSteps:=2000000) -implicitDefEqProofs [-getElem?_pos,go_sem,eqV,ah,ha,q1,q2,q4,h256,QD,QE,hy,hy0,hyb,ZA,hL])
   ·(refine ⟨0,?_⟩;simp (maxSteps:=2000000) -implicitDefEqProofs [-getElem?_pos,go_sem,eqV,ah,ha,q1,q2,q4,h256,QD,QE,hy,hy0,hyb,ZA])
 ·have heb:((bC (acc.take n)).2 != 0) = true:=by simpa using he
  have ZC:((bC (acc.take n)).2 == 0) = false:=by simpa using he
  unfold Ac
  rw [ZC]
  generalize (bC (acc.take n)).1 = w at *
  generalize (bC (acc.take n)).2 = e at *
  simp only [kP]
  (refine ⟨0,?_⟩;simp (maxSteps:=2000000) -implicitDefEqProofs [-getElem?_pos,go_sem,eqV,ah,he,heb])
theorem ZE {m a n k g τ:Nat} {acc:List Int} {ob:AM.Obj} {E:AM.Heap} (ha:E[a]? = some (some ob)) (hw:RwT (.pi .i64 acc) g τ ob) (hn:n + k = acc.length):∃ code,((Try.f38.body).bind (aI [1,1,1,1,1,1,1,1,1,1,1,1,1,1,0,0])) = some code ∧
  Run X (evT X) 38 m code (kP a n k g ++ [(13,.bool (bC (acc.drop n)).1),(14,.int .i64 (bC (acc.drop n)).2)]) E ⟨.normal,kP a n k g ++ [(132,.bool (!Ad (acc.drop n)))],E⟩:=by
 refine ⟨_,rfl,?_⟩
 have hp:dP E (.sl a n k g) = some (.pi .i64 (acc.drop n)):=by
  have:=mP (off:=n) (n:=k) ha hw (by omega)
  rwa [List.take_of_length_le (by simp;omega)] at this
 by_cases he:(bC (acc.drop n)).2 = 0
 ·have HY:=(o9 he)
  have hL:=Vo hp HY.1 HY.2
  have hN:=Zx hp HY.1
  unfold Ad
  rw [he]
  generalize Gq (acc.drop n) = lo at *
  generalize Gs (acc.drop n) = no at *
  generalize (bC (acc.drop n)).1 = w at *
  simp only [kP]
  cases w
  ·cases lo
   ·cases no
    ·(refine ⟨0,?_⟩;simp (maxSteps:=2000000) -implicitDefEqProofs [-getElem?_pos,go_sem,eqV,ah,hL,hN])
    ·(refine ⟨0,?_⟩;simp (maxSteps:=2000000) -implicitDefEqProofs [-getElem?_pos,go_sem,eqV,ah,hL,hN])
   ·(refine ⟨0,?_⟩;simp (maxSteps:=2000000) -implicitDefEqProofs [-getElem?_pos,go_sem,eqV,ah,hL])
  ·(refine ⟨0,?_⟩;simp (maxSteps:=2000000) -implicitDefEqProofs [-getElem?_pos,go_sem,eqV,ah])
 ·have heb:((bC (acc.drop n)).2 != 0) = true:=by simpa using he
  have ZC:((bC (acc.drop n)).2 == 0) = false:=by simpa using he
  unfold Ad
  rw [ZC]
  generalize (bC (acc.drop n)).1 = w at *
  generalize (bC (acc.drop n)).2 = e at *
  simp only [kP]
  (refine ⟨0,?_⟩;simp (maxSteps:=2000000) -implicitDefEqProofs [-getElem?_pos,go_sem,eqV,ah,he,heb])
theorem ZF {m a N nl nd g τ:Nat} {acc:List Int} {ob:AM.Obj} {E:AM.Heap} (ha:E[a]? = some (some ob)) (hw:RwT (.pi .i64 acc) g τ ob) (hN:acc.length = N) (hn:nl≤N):∃ code,((Try.f38.body).bind (aI [1,1,1,1,1,1,1,1,1,1,0])) = some code ∧
  Run X (evT X) 38 m code [(0,.ptr 0 0 0 0),(4,.int .i64 (nl:Nat)),(12,.sl a 0 N g),(81,.bool false)] E ⟨.normal,kP a nl (N - nl) g,E⟩:=by
 refine ⟨_,rfl,?_⟩
 have q1:=hw.p;have q2:=hw.g;have q4:=hw.ids
 have h1:(nl:Int)≤(N:Int):=by omega
 have h2:((N:Nat):Int).toNat = N:=by omega
 simp only [kP]
 apply Run.dy (by simp) Tm (by simp)
 ·(conv=>lhs;simp (maxSteps:=2000000) -implicitDefEqProofs [-getElem?_pos,go_sem,eqV,ah,jS,out1,bP,lD,jA,pushes,jE,ig,touched,mentioned,iR,fD,bZ,lF,Op.operands,ids,aA,aG,dS,dN,gI,jV,ha,q1,q2,q4,hN,hn,h1,h2,qK,bound,ak,iT])
 ·refine jC (ps:=[(0,1),(0,3),(1,3),(2,3),(0,4),(1,4),(2,4),(3,4),(0,5),(1,5),(2,5),(3,6),(4,6),(5,6)]) (by kernel_rfl) ?_
  simp [vH,bear,disjoint,kX,Call.operands,aF,au,aA,ids,iT]
 ·rfl
theorem QF {b:List UInt8} {L:List Int} {N:Nat}:∀ {f:Nat} {acc a:List Int} {k k':Nat} {o o':List UInt8},uP b L N f acc k o = .ok a k' o'→acc.length≤N→a.length = N
 | 0,_,_,_,_,_,_,h,_=>by cases h
 | f + 1,acc,a,k,k',o,o',h,hl=>by
  unfold uP at h
  split at h
  ·obtain ⟨rfl,_⟩:=iO h
   omega
  ·rename_i hn
   obtain ⟨j,k1,o1,h1,h2⟩:=jh h
   obtain ⟨a2,k2,o2,h3,h4⟩:=jh h2
   refine QF h4 ?_
   have hag:∀ {x:Int} {t:Nat} {k k':Nat} {o o':List UInt8} {a:List Int},vK N acc x t k o = .ok a k' o'→a.length≤N:=by
    intro x t k k' o o' a h
    unfold vK at h
    split at h
    ·cases h
    ·obtain ⟨rfl,_⟩:=iO h
     rw [List.length_append,List.length_replicate];omega
   unfold DK at h3
   split at h3
   ·split at h3
    ·cases h3
    ·obtain ⟨u,k3,o3,g1,g2⟩:=jh h3
     exact hag g2
   ·split at h3
    ·obtain ⟨u,k3,o3,g1,g2⟩:=jh h3
     exact hag g2
    ·split at h3
     ·obtain ⟨u,k3,o3,g1,g2⟩:=jh h3
      exact hag g2
     ·obtain ⟨rfl,_⟩:=iO h3
      simp;omega
end
end Go.Proofs.Ytcllinmgllmpmaa
namespace Go.Proofs.Ytcllinmgllmpmaa
open Go.AM
def DyR (t:Nat) (E:AM.Heap) (oa:Option Nat) (v1 v2:AV) (l1 l2:List Int):Prop :=
 (∃ x y o1 o2,v1 = .sl x 0 0 0∧v2 = .sl y 0 0 0∧E[x]? = some (some o1)∧E[y]? = some (some o2)∧RwT (.pi .i64 []) 0 0 o1∧RwT (.pi .i64 []) 0 0 o2∧x ≠ y∧x ≠ 0∧y ≠ 0∧(∀ a,oa = some a→x ≠ a∧y ≠ a)∧l1 = []∧l2 = []) ∨
 (∃ a n k g τ ob acc,v1 = .sl a 0 n g∧v2 = .sl a n k g∧(τ = 0∨τ = t)∧E[a]? = some (some ob)∧RwT (.pi .i64 acc) g τ ob∧a ≠ 0∧(∀ x,oa = some x→a ≠ x)∧n + k = acc.length∧acc.length≤400∧l1 = acc.take n∧l2 = acc.drop n)
section
variable {c:Nat} {b:List UInt8} {mo:Int} {t:Nat} {H:AM.Heap} {o:Nat} {oa:Option Nat} {s:Is}
def dyK (b:List UInt8) (F nl nd:Nat) (cl:List Int):PM (List Int × List Int):=if bC cl = (true,0) then dD (uP b cl (nl + nd) F []) fun a=>if (Ac (a.take nl) && Ad (a.drop nl)) = true then mG (a.take nl,a.drop nl) else nU 5 else nU 5
theorem kept {H H':AM.Heap} {oa oa':Option Nat} {j:Nat} (hk:Kpt H H' 0 oa oa') (hj:j < H.length) (h0:j ≠ 0) (ha:∀ a,oa = some a→j ≠ a):H'[j]? = H[j]?∧∀ a,oa' = some a→j ≠ a:=by
 refine ⟨hk.rest j hj h0 ha,fun a h=>?_⟩
 cases hq:oa with
 | none=>have:=hk.new a hq h;omega
 | some z=>have:=hk.same z hq;rw [h] at this;cases this;exact ha _ hq
theorem XH {m p7 p8 nl nd nc τ7 F:Nat} {cl0:List Int} {ob0:AM.Obj} {E:AM.Heap} {s0:Is} (h:IrV c b mo t E 0 oa s) (hs:fM b mo s) (hb:b.length≤100000) (h7:E[p7]? = some (some (orO τ7))) (h8:E[p8]? = some (some ob0)) (hw:RwT (.pi .i64 cl0) 0 0 ob0) (hcl:cl0.length = 19) (hnc:nc≤19)
  (n7:p7 ≠ 0) (n8:p8 ≠ 0) (n78:p7 ≠ p8) (o7:∀ a,oa = some a→p7 ≠ a) (o8:∀ a,oa = some a→p8 ≠ a)
  (hC:tX b mo (dD (hcP b (yS.take nc) cl0) (dyK b F nl nd)) s (BU b F) s0 (fun u=>u)) :
  ∃ code,((Try.f38.body).bind (aI [1,1,1,1,1,0,1])) = some code∧aj (Goes fun fr E'=>∃ oa' s' cl ob,fr = uQ p7 p8 nl nd nc nc ++ [(43,.bool false)]∧IrV c b mo t E' 0 oa' s'∧fM b mo s'∧(∀ a,oa = some a→oa' = some a)∧E'[p8]? = some (some ob)∧RwT (.pi .i64 cl) 0 0 ob∧cl.length = 19∧(∀ a,oa' = some a→p8 ≠ a)∧(s'.e = 0→s.e = 0)∧tX b mo (dyK b F nl nd cl) s' (BU b F) s0 (fun u=>u))
   X (evT X) 38 m code (uQ p7 p8 nl nd nc 0) E:=by
 refine ⟨_,rfl,?_⟩
 apply aj.block
 refine aj.kF (I:=fun q fr E'=>∃ oa' s' cl ob i,i≤nc∧q = nc - i∧fr = uQ p7 p8 nl nd nc i∧IrV c b mo t E' 0 oa' s'∧fM b mo s'∧(∀ a,oa = some a→oa' = some a)∧E'[p7]? = some (some (orO τ7))∧E'[p8]? = some (some ob)∧RwT (.pi .i64 cl) 0 0 ob∧cl.length = 19∧(∀ a,oa' = some a→p7 ≠ a∧p8 ≠ a)∧(s'.e = 0→s.e = 0) ∧
  tX b mo (dD (hcP b ((yS.take nc).drop i) cl) (dyK b F nl nd)) s' (BU b F) s0 (fun u=>u)) ?_ (k:=nc) ⟨oa,s,cl0,ob0,0,by omega,rfl,rfl,h,hs,fun _ h=>h,h7,h8,hw,hcl,fun a ha=>⟨o7 a ha,o8 a ha⟩,fun h=>h,hC⟩
 rintro q fr E' ⟨oa',s',cl,ob,i,hi,rfl,rfl,hV,hs',hm,k7,k8,hw',hcl',hoff,hee,hC'⟩
 by_cases hin:i = nc
 ·subst hin
  refine aj.of (o:=⟨.exit 0,uQ p7 p8 nl nd i i ++ [(43,.bool false)],E'⟩) ?_ (.inr ⟨by simp,rfl,oa',s',cl,ob,rfl,hV,hs',hm,k8,hw',hcl',fun a ha=>(hoff a ha).2,hee,?_⟩)
  ·simp only [uQ]
   (refine ⟨0,?_⟩;simp (maxSteps:=2000000) -implicitDefEqProofs [-getElem?_pos,go_sem,eqV,ah])
  ·rw [List.drop_of_length_le (by rw [List.length_take];omega)] at hC'
   exact hC'
 ·have hlt:i < nc:=by omega
  have jU:(i:Int) < (nc:Int):=by omega
  obtain ⟨E2,oa2,s2,ob2,x,k,hk,v1,v2,v3,v4,v5,v6,v7,hr9⟩:=abE (m:=m) (nl:=nl) (nd:=nd) (nc:=nc) (i:=i) hV hs' hb k7 k8 hw' hcl' (by omega) n7 n8 n78 (fun a ha=>(hoff a ha).1) (fun a ha=>(hoff a ha).2)
  refine aj.of (o:=⟨.normal,uQ p7 p8 nl nd nc (i + 1),E2⟩) ?_ (.inl ⟨rfl,nc - (i + 1),by omega,oa2,s2,cl.set k x,ob2,i + 1,by omega,rfl,rfl,v1,v2.1,fun a ha=>v3 a (hm a ha),v5,v6,v7,by simpa using hcl',v4,fun h=>hee (v2.fine h).1,?_⟩)
  ·apply Run.seq (fr':=uQ p7 p8 nl nd nc i ++ [(43,.bool true)]) (H':=E')
   ·simp only [uQ]
    (refine ⟨0,?_⟩;simp (maxSteps:=2000000) -implicitDefEqProofs [-getElem?_pos,go_sem,eqV,ah,jU])
   apply Run.seq (fr':=uQ p7 p8 nl nd nc i ++ [(43,.bool true)]) (H':=E')
   ·refine ⟨0,?_⟩
    simp only [uQ]
    simp (maxSteps:=2000000) -implicitDefEqProofs [-getElem?_pos,go_sem,eqV,ah]
   apply Run.seq (fr':=uQ p7 p8 nl nd nc i) (H':=E2)
   ·apply Run.block
    ·apply Run.seq (fr':=[(0,.ptr 0 0 0 0),(4,.int .i64 (nl:Nat)),(5,.int .i64 (nd:Nat)),(7,.ptr p7 0 0 0),(8,.sl p8 0 19 0),(9,.int .i64 (i:Nat)),(41,.int .i64 (nc:Nat)),(42,.int .i64 (i:Nat))]) (H':=E')
     ·simp only [uQ]
      (refine ⟨0,?_⟩;simp (maxSteps:=2000000) -implicitDefEqProofs [-getElem?_pos,go_sem,eqV,ah,ak])
     exact piece hr9 _ rfl
    ·simp
   ·have w1:IntKind.i64.wrap ((i:Int) + 1) = ((i + 1:Nat):Int):=by rw [wrap_i64 (by omega) (by omega)];omega
    simp only [uQ]
    (refine ⟨0,?_⟩;simp (maxSteps:=2000000) -implicitDefEqProofs [-getElem?_pos,go_sem,eqV,ah,w1])
  ·have hd:(yS.take nc).drop i = k :: (yS.take nc).drop (i + 1):=by
    have hl:i < (yS.take nc).length:=by rw [List.length_take];show i < min nc 19;omega
    rw [List.drop_eq_getElem_cons hl]
    congr 1
    rw [List.getElem_take]
    have hl2:i < yS.length:=by show i < 19;omega
    rw [List.getElem?_eq_getElem hl2] at hk
    exact Option.some.inj hk
   rw [hd] at hC'
   intro s3 y hy
   refine hC' s3 y ?_
   unfold hcP
   rw [EH]
   exact v2.toE.bnd (f:=fun x=>dD (hcP b ((yS.take nc).drop (i + 1)) (cl.set k x)) (dyK b F nl nd)) hy
end
end Go.Proofs.Ytcllinmgllmpmaa
