/- IK to IL: texts of this claim, one behind the other; what each shows stands at its head. -/
import Derived.Test.YteblpjhkgdpchaaAm4
import Derived.Test.YteblpjhkgdpchaaMg8
set_option linter.unusedSimpArgs false
set_option linter.unusedVariables false
set_option maxRecDepth 100000
set_option maxHeartbeats 8000000
namespace Go.Proofs.Yteblpjhkgdpchaa
open Go.AM
theorem KU (i x:Int):∀ (l cs:List Int) (j0 j:Nat),jD i x l cs j0 = some j→j < j0 + l.length
  | [],_,_,_,h=>by simp [jD] at h
  | _ :: _,[],_,_,h=>by simp [jD] at h
  | y :: l,z :: cs,j0,j,h=>by
    unfold jD at h
    split at h
    · have:=Option.some.inj h
      simp;omega
    · have:=KU i x l cs (j0 + 1) j h
      simp;omega
theorem Ut {b:List UInt8} {l codes:List Int}:∀ {f i:Nat} {x:Int} {k k1 j:Nat} {o o1:List UInt8},decP b l codes f i x k o = .ok j k1 o1→k < k1∧o1 = o∧j < l.length
  | 0,_,_,_,_,_,_,_,h=>by cases h
  | f + 1,i,x,k,k1,j,o,o1,h=>by
    unfold decP at h
    obtain ⟨y,k2,o2,h1,h2⟩:=iZ h
    unfold vS at h1
    split at h1
    · obtain ⟨rfl,rfl,rfl⟩:=iy h1
      cases hf:jD i (2 * x + je b k) l codes 0 with
      | some j2 =>
        rw [hf] at h2
        obtain ⟨rfl,rfl,rfl⟩:=iy h2
        have:=KU _ _ _ _ _ _ hf
        exact ⟨by omega,rfl,by omega⟩
      | none =>
        rw [hf] at h2
        obtain ⟨e1,e2,e3⟩:=Ut h2
        exact ⟨by omega,e2,e3⟩
    · cases h1
theorem Uu {b:List UInt8} {l:List Int} {k k1 j:Nat} {o o1:List UInt8} (h:uh b l k o = .ok j k1 o1):k < k1∧o1 = o∧j < l.length∧(bn l).2 = 0:=by
  unfold uh at h
  split at h
  · rename_i he
    obtain ⟨e1,e2,e3⟩:=Ut h
    exact ⟨e1,e2,e3,he⟩
  · cases h
section
variable {c:Nat} {b:List UInt8} {mo:Int} {t:Nat} {H:AM.Heap} {o:Nat} {oa:Option Nat} {s:Is}
def lM (cl cd:Nat) (ll dl:List Int):AM.Frame:=[(0,.ptr 0 0 0 0),(1,.ro cl (.pi .i64 ll) 2),(2,.ro cd (.pi .i64 dl) 3)]
theorem aas {m cl cd:Nat} {ll dl:List Int} {E:AM.Heap} (h:IrV c b mo t E 0 oa s):∃ code,((Try.f47.body).bind (aI [0,0,0,0])) = some code∧Run X (evT X) 47 m code (lM cl cd ll dl) E ⟨.normal,lM cl cd ll dl ++ [(11,.bool (s.e == 0))],E⟩:=by
  refine ⟨_,rfl,?_⟩
  obtain ⟨⟨vo,τ1,τ,a1,a2,h0,ho⟩,hne⟩:=id h
  simp only [bF] at h0
  by_cases he:s.e = 0
  · rw [he] at h0 ⊢
    simp only [lM]
    (refine ⟨0,?_⟩;simp (maxSteps:=2000000) -implicitDefEqProofs [-getElem?_pos,go_sem,eqV,ah,h0])
  · have heb:(s.e == 0) = false:=by simpa using he
    simp only [lM]
    (refine ⟨0,?_⟩;simp (maxSteps:=2000000) -implicitDefEqProofs [-getElem?_pos,go_sem,eqV,ah,h0,he,heb])
theorem aat {m cl cd j:Nat} {ll dl:List Int} {E:AM.Heap} (h:IrV c b mo t E 0 oa s):∃ code,((Try.f47.body).bind (aI [0,0,1,0,1,0,0])) = some code∧Run X (evT X) 47 m code (lM cl cd ll dl ++ [(6,.int .i64 (j:Nat))]) E ⟨.normal,lM cl cd ll dl ++ [(6,.int .i64 (j:Nat)),(19,.bool (s.e != 0 || j == 256))],E⟩:=by
  refine ⟨_,rfl,?_⟩
  obtain ⟨⟨vo,τ1,τ,a1,a2,h0,ho⟩,hne⟩:=id h
  simp only [bF] at h0
  by_cases he:s.e = 0
  · rw [he] at h0 ⊢
    by_cases hj:j = 256
    · subst hj
      simp only [lM]
      (refine ⟨0,?_⟩;simp (maxSteps:=2000000) -implicitDefEqProofs [-getElem?_pos,go_sem,eqV,ah,h0])
    · have h1:(j == 256) = false:=by simpa using hj
      have h2:((j:Int) == 256) = false:=by simp;omega
      have h3:¬ ((j:Int) = 256):=by omega
      rw [h1]
      simp only [lM]
      (refine ⟨0,?_⟩;simp (maxSteps:=2000000) -implicitDefEqProofs [-getElem?_pos,go_sem,eqV,ah,h0,h2,h3])
  · have heb:(s.e != 0) = true:=by simpa using he
    rw [heb]
    simp only [lM]
    (refine ⟨0,?_⟩;simp (maxSteps:=2000000) -implicitDefEqProofs [-getElem?_pos,go_sem,eqV,ah,h0,he,heb])
theorem NZ {m cl cd F:Nat} {ll dl:List Int} {E:AM.Heap} (h:IrV c b mo t E 0 oa s) (hs:fE b mo s) (hb:b.length≤100000) (hm:mo≤1000000) (hF:8 * b.length < F) (hl:ll.length < 9223372036854775808) (hl2:dl.length < 9223372036854775808):∃ code,Try.f47.body = some code ∧
    aj (jZ fun fr E'=>∃ s' oa',IrV c b mo t E' 0 oa' s'∧(∀ x,oa = some x→oa' = some x)∧bV b mo (qL b mo ll dl F) () s s' ()) X (evT X) 47 m code (lM cl cd ll dl) E:=by
  refine ⟨_,rfl,?_⟩
  refine aj.mono (Q:=Or2 (fun fr E'=>∃ s' oa',IrV c b mo t E' 0 oa' s'∧(∀ x,oa = some x→oa' = some x)∧bV b mo (qL b mo ll dl F) () s s' ()) (fun o=>o.ex = .ret∧∃ s' oa',IrV c b mo t o.H 0 oa' s'∧(∀ x,oa = some x→oa' = some x)∧bV b mo (qL b mo ll dl F) () s s' ())) ?_ (by
    rintro out (⟨h1,h2⟩ | ⟨_,h1,h2⟩)
    · exact ⟨.inl h1,h2⟩
    · exact ⟨.inr h1,h2⟩)
  apply aj.Il
  refine aj.kE (I:=fun q fr E'=>∃ oa' s',q = (if s'.e = 0 then 8 * b.length - s'.k + 1 else 0)∧fr = lM cl cd ll dl∧IrV c b mo t E' 0 oa' s'∧(∀ a,oa = some a→oa' = some a)∧fE b mo s'∧∃ f,(s'.e = 0→8 * b.length < f + s'.k)∧Cnt b mo (qL b mo ll dl f) () s' (qL b mo ll dl F) () s (fun u=>u)) ?_ (k:=if s.e = 0 then 8 * b.length - s.k + 1 else 0) ⟨oa,s,rfl,rfl,h,fun _ h=>h,hs,F,fun _=>by omega,fun _ _ h=>h⟩
  rintro q fr E' ⟨oa',s',rfl,rfl,hV,hm',hs',f,hf,hC⟩
  have h0:=aas (m:=m) (cl:=cl) (cd:=cd) (ll:=ll) (dl:=dl) hV
  by_cases he:¬ s'.e = 0
  · refine aj.of (o:=⟨.exit 0,lM cl cd ll dl ++ [(11,.bool false)],E'⟩) ?_ (.inr ⟨by simp,.inl ⟨rfl,s',oa',hV,hm',hC _ () (bV.stop hs' he)⟩⟩)
    rw [show (s'.e == 0) = false by simpa using he] at h0
    apply Run.bG
    · apply Run.seq (piece h0 _ rfl)
      refine ⟨0,?_⟩
      simp only [lM]
      simp (maxSteps:=2000000) -implicitDefEqProofs [-getElem?_pos,go_sem,eqV,ah]
    · simp
  have he:s'.e = 0:=Classical.not_not.1 he
  rw [he] at h0
  obtain ⟨f,rfl⟩:∃ f',f = f' + 1:=⟨f - 1,by have:=hs'.1;have:=hf he;omega⟩
  apply aj.seq (fr':=lM cl cd ll dl ++ [(11,.bool true)]) (H':=E')
  · apply Run.seq (piece h0 _ rfl)
    refine ⟨0,?_⟩
    simp only [lM]
    simp (maxSteps:=2000000) -implicitDefEqProofs [-getElem?_pos,go_sem,eqV,ah]
  obtain ⟨E2,oa2,s2,j,h2,v2,r2,k2⟩:=AQ (a:=.ro cl (.pi .i64 ll) 2) (l:=ll) hV hs' hb rfl (fun x hx=>by cases hx) hl
  have hC2:=hC.step r2
  have hsm:∀ a,oa = some a→oa2 = some a:=fun a ha=>k2.same a (hm' a ha)
  have h3:=aat (m:=m) (cl:=cl) (cd:=cd) (j:=j) (ll:=ll) (dl:=dl) v2
  by_cases hret:¬ s2.e = 0∨j = 256
  · -- it is over
    refine aj.of (o:=⟨.ret,lM cl cd ll dl ++ [(6,.int .i64 (j:Nat)),(19,.bool true)],E2⟩) ?_ (.inr ⟨by simp,.inr ⟨rfl,rfl,s2,oa2,v2,hsm,?_⟩⟩)
    · rw [show (s2.e != 0 || j == 256) = true by
        rcases hret with h | h
        · rw [show (s2.e != 0) = true by simpa using h];rfl
        · rw [h];simp] at h3
      apply Run.block
      · apply Run.seq (fr':=lM cl cd ll dl ++ [(6,.int .i64 (j:Nat))]) (H':=E2)
        · simp only [lM]
          (refine ⟨0,?_⟩;simp (maxSteps:=2000000) -implicitDefEqProofs [-getElem?_pos,go_sem,eqV,ah,h2,ak])
        apply Run.block
        · apply Run.seq (piece h3 _ rfl)
          refine ⟨0,?_⟩
          simp only [lM]
          simp (maxSteps:=2000000) -implicitDefEqProofs [-getElem?_pos,go_sem,eqV,ah]
        · simp
      · simp
    · refine hC2 _ () ?_
      by_cases h4:s2.e = 0
      · have hj:j = 256:=by
          rcases hret with h | h
          · exact absurd h4 h
          · exact h
        rw [if_pos hj]
        exact bV.ret r2.1 fun _=>rfl
      · exact bV.stop r2.1 h4
  have he2:s2.e = 0:=Classical.not_not.1 fun h=>hret (.inl h)
  have hj:¬ j = 256:=fun h=>hret (.inr h)
  rw [if_neg hj] at hC2
  obtain ⟨_,hok⟩:=r2.fine he2
  obtain ⟨hk1,_,hjl,hrc⟩:=Uu hok
  have aiY:j < 320:=by have:=(oM hrc).1;omega
  rw [he2,show (j == 256) = false by simpa using hj] at h3
  have htail:∀ (E3:AM.Heap) (fr3:AM.Frame),(∃ code,((Try.f47.body).bind (aI [0,0,1,0,1,0,1,1])) = some code∧Run X (evT X) 47 m code (lM cl cd ll dl ++ [(6,.int .i64 (j:Nat)),(19,.bool false)]) E2 ⟨.normal,lM cl cd ll dl,E3⟩)→∃ code,((Try.f47.body).bind (aI [0,0,1])) = some code∧Run X (evT X) 47 m code (lM cl cd ll dl ++ [(11,.bool true)]) E' ⟨.normal,lM cl cd ll dl,E3⟩:=by
    intro E3 fr3 hh
    refine ⟨_,rfl,?_⟩
    apply Run.block
    · apply Run.seq (fr':=lM cl cd ll dl ++ [(6,.int .i64 (j:Nat))]) (H':=E2)
      · simp only [lM]
        (refine ⟨0,?_⟩;simp (maxSteps:=2000000) -implicitDefEqProofs [-getElem?_pos,go_sem,eqV,ah,h2,ak])
      apply Run.block
      · apply Run.seq (piece h3 _ rfl)
        refine Run.cond (d:=false) (by simp [lM,aJ,ay]) ?_
        exact piece hh _ rfl
      · simp
    · simp
  by_cases h256:j < 256
  · rw [if_pos h256] at hC2
    obtain ⟨E3,oa3,s3,g1,g2,g3,g4⟩:=Ir (y:=UInt8.ofNat j) v2 r2.1 hm
    have hC3:=hC2.step g3
    have hup:=(Dl (UInt8.ofNat j)).up b mo s2.k s2.o
    refine aj.of (o:=⟨.normal,lM cl cd ll dl,E3⟩) ?_ (.inl ⟨rfl,_,?_,oa3,s3,rfl,rfl,g2,fun a ha=>g4.same a (hsm a ha),g3.1,f,?_,hC3⟩)
    · refine piece (htail E3 [] ⟨_,rfl,?_⟩) _ rfl
      have hy:(((UInt8.ofNat j).toNat:Nat):Int) = (j:Int):=by
        rw [UInt8.toNat_ofNat',Nat.mod_eq_of_lt (by omega)]
      rw [hy] at g1
      have hI:(j:Int) < 256:=by omega
      have w:IntKind.u8.wrap (j:Int) = (j:Int):=wrap_u8 (by omega) (by omega)
      simp only [lM]
      (refine ⟨0,?_⟩;simp (maxSteps:=2000000) -implicitDefEqProofs [-getElem?_pos,go_sem,eqV,ah,hI,w,g1,ak])
    · rw [if_pos he]
      split
      · rename_i he3
        obtain ⟨_,N7⟩:=g3.fine he3
        have:=(hup _ _ _ N7 r2.1.1).1
        have:=g3.1.1
        omega
      · omega
    · intro he3
      obtain ⟨_,N7⟩:=g3.fine he3
      have:=(hup _ _ _ N7 r2.1.1).1
      have:=hf he
      omega
  · rw [if_neg h256] at hC2
    obtain ⟨E3,oa3,s3,g1,g2,g3,g4⟩:=Ri (sy:=j) (a:=.ro cd (.pi .i64 dl) 3) (dl:=dl) v2 r2.1 hb hm (by omega) (by omega) rfl (fun x hx=>by cases hx) hl2
    have hC3:=hC2.step g3
    have hup:=(Pz dl j).up b mo s2.k s2.o
    refine aj.of (o:=⟨.normal,lM cl cd ll dl,E3⟩) ?_ (.inl ⟨rfl,_,?_,oa3,s3,rfl,rfl,g2,fun a ha=>g4.same a (hsm a ha),g3.1,f,?_,hC3⟩)
    · refine piece (htail E3 [] ⟨_,rfl,?_⟩) _ rfl
      have hI:¬ (j:Int) < 256:=by omega
      simp only [lM]
      (refine ⟨0,?_⟩;simp (maxSteps:=2000000) -implicitDefEqProofs [-getElem?_pos,go_sem,eqV,ah,hI,g1,ak])
    · rw [if_pos he]
      split
      · rename_i he3
        obtain ⟨_,N7⟩:=g3.fine he3
        have:=(hup _ _ _ N7 r2.1.1).1
        have:=g3.1.1
        omega
      · omega
    · intro he3
      obtain ⟨_,N7⟩:=g3.fine he3
      have:=(hup _ _ _ N7 r2.1.1).1
      have:=hf he
      omega
theorem KW {F:Nat} {ll dl:List Int} {a a2:AV} (h:IrV c b mo t H o oa s) (hs:fE b mo s) (hb:b.length≤100000) (hm:mo≤1000000) (hF:8 * b.length < F) (ha:eG H a = some (.pi .i64 ll)) (hd:∀ x ∈ slO a,x ≠ o∧∀ y,oa = some y→x ≠ y) (ha2:eG H a2 = some (.pi .i64 dl)) (hd2:∀ x ∈ slO a2,x ≠ o∧∀ y,oa = some y→x ≠ y)
    (hl:ll.length < 9223372036854775808) (hl2:dl.length < 9223372036854775808) :
    ∃ H' oa' s',evT X 47 [.ptr o 0 0 0,a,a2] H = some (.tup [],H')∧IrV c b mo t H' o oa' s'∧bV b mo (qL b mo ll dl F) () s s' ()∧Kpt H H' o oa oa':=by
  obtain ⟨code,hc⟩:∃ code,Try.f47.body = some code:=⟨_,rfl⟩
  have hdis:∀ x,(∀ y ∈ slO x,y ≠ o∧∀ z,oa = some z→y ≠ z)→disjoint (slO x) (o :: oa.toList) = true:=by
    intro x hx
    refine gZ.2 ?_
    intro y hy hy2
    obtain ⟨h1,h2⟩:=hx y hy
    rcases List.mem_cons.1 hy2 with h3 | h3
    · exact h1 h3
    · exact h2 y (by simpa using h3) rfl
  obtain ⟨H',oa',s',_,h1,h2,h3,h4⟩:=AO (f:=47) (n:=4) (xs:=[a,a2]) (ys:=[.ro (tY H a) (.pi .i64 ll) 2,.ro (tY H a2) (.pi .i64 dl) 3]) (m:=qL b mo ll dl F) (d:=()) (v:=fun _=>[]) Try.func47 hc rfl h (fun π K hπ=>fD.TV rfl ha rfl (by rw [hπ];exact hdis a hd) (fD.TV rfl ha2 rfl (by rw [hπ];exact hdis a2 hd2) fD.nil)) rfl rfl (by simp [dM]) (fun _=>⟨rfl,rfl,rfl⟩) (by
    intro mm E oa1 hE
    obtain ⟨code,hc,ht⟩:=NZ (m:=mm) (cl:=tY H a) (cd:=tY H a2) hE hs hb hm hF hl hl2
    refine ⟨code,hc,?_⟩
    rw [aau]
    refine ht.mono fun o ho=>⟨ho.1,?_⟩
    obtain ⟨s',oa',q1,q2,q3⟩:=ho.2
    exact ⟨s',oa',(),rfl,q1,q2,q3⟩)
  exact ⟨H',oa',s',h1,h2,h3,h4⟩
end
end Go.Proofs.Yteblpjhkgdpchaa
namespace Go.Proofs.Yteblpjhkgdpchaa
open Go.AM
def fO (b:List UInt8) (mo:Int) {α:Type} (m:PM α) (s s':Is) (a:α):Prop :=
  fE b mo s'∧if s.e = 0 then (match m s.k s.o with
    | .ok x k o=>s' = ⟨k,o,0⟩∧a = x
    | .err e=>s'.e = e∧e ≠ 0) else s' = s
section
variable {b:List UInt8} {mo:Int} {α β γ:Type} {s s1 s2:Is}
theorem bV.toE {m:PM α} {d x:α} (h:bV b mo m d s s1 x):fO b mo m s s1 x:=by
  refine ⟨h.1,?_⟩
  have h1:=h.2
  by_cases he:s.e = 0
  · rw [if_pos he] at h1 ⊢
    cases hm:m s.k s.o with
    | ok a k o=>rw [hm] at h1;exact h1
    | err e=>rw [hm] at h1;exact ⟨h1.1,h1.2.1⟩
  · rw [if_neg he] at h1 ⊢
    exact h1.1
theorem fO.bnd {m:PM α} {f:α→PM β} {x:α} {y:β} (h:fO b mo m s s1 x) (h2:fO b mo (f x) s1 s2 y):fO b mo (dG m f) s s2 y:=by
  refine ⟨h2.1,?_⟩
  have h1:=h.2
  have h3:=h2.2
  by_cases he:s.e = 0
  · rw [if_pos he] at h1 ⊢
    unfold dG
    cases hm:m s.k s.o with
    | ok a k o =>
      rw [hm] at h1
      obtain ⟨rfl,rfl⟩:=h1
      simpa using h3
    | err e =>
      rw [hm] at h1
      obtain ⟨h4,h5⟩:=h1
      rw [if_neg (by rw [h4];exact h5)] at h3
      rw [h3]
      exact ⟨h4,h5⟩
  · rw [if_neg he] at h1 ⊢
    rw [h1] at h3
    rw [if_neg he] at h3
    exact h3
theorem fO.stop {m:PM α} {x:α} (hs:fE b mo s) (he:s.e ≠ 0):fO b mo m s s x:=⟨hs,by rw [if_neg he]⟩
theorem fO.fine {m:PM α} {x:α} (h:fO b mo m s s1 x) (he:s1.e = 0):s.e = 0∧m s.k s.o = .ok x s1.k s1.o:=by
  have h1:=h.2
  by_cases h0:s.e = 0
  · rw [if_pos h0] at h1
    cases hm:m s.k s.o with
    | ok a k o =>
      rw [hm] at h1
      obtain ⟨rfl,rfl⟩:=h1
      exact ⟨h0,rfl⟩
    | err e =>
      rw [hm] at h1
      exact absurd (h1.1.symm.trans he) h1.2
  · rw [if_neg h0] at h1
    exact absurd (h1 ▸ he) h0
theorem fO.any {m:PM α} {x y:α} (h:fO b mo m s s1 x) (he:s1.e ≠ 0):fO b mo m s s1 y:=by
  refine ⟨h.1,?_⟩
  have h1:=h.2
  by_cases h0:s.e = 0
  · rw [if_pos h0] at h1 ⊢
    cases hm:m s.k s.o with
    | ok a k o =>
      rw [hm] at h1
      obtain ⟨rfl,rfl⟩:=h1
      exact absurd rfl he
    | err e=>rw [hm] at h1;exact h1
  · rw [if_neg h0] at h1 ⊢;exact h1
theorem EC (m:PM α) (f:α→PM β) (g:β→PM γ):dG (dG m f) g = dG m fun a=>dG (f a) g:=by
  funext k o
  unfold dG
  cases m k o <;> rfl
theorem I4 {N:Nat} {acc acc':List Int} {x:Int} {t:Nat} (hs:fE b mo s) (h:(acc',s1) = agR (N:Nat) acc x t s):fO b mo (uX N acc x t) s s1 acc':=by
  unfold agR at h
  unfold uX
  by_cases hc:N < acc.length + t
  · rw [if_pos (by omega)] at h
    rw [if_pos hc]
    simp only [Prod.mk.injEq] at h
    obtain ⟨rfl,rfl⟩:=h
    exact (bV.bad (d:=acc') hs (by simp)).toE
  · rw [if_neg (by omega)] at h
    rw [if_neg hc]
    simp only [Prod.mk.injEq] at h
    obtain ⟨rfl,rfl⟩:=h
    refine ⟨hs,?_⟩
    by_cases he:s1.e = 0
    · rw [if_pos he];exact ⟨by rw [← he],rfl⟩
    · rw [if_neg he]
theorem I5 {N:Nat} {acc acc':List Int} {x:Int} {t:Nat} (h:(acc',s1) = agR (N:Nat) acc x t s) (ha:acc.length≤N + 1):acc'.length≤N + 1:=by
  unfold agR at h
  split at h
  · simp only [Prod.mk.injEq] at h
    rw [h.1];exact ha
  · rename_i hc
    simp only [Prod.mk.injEq] at h
    rw [h.1,List.length_append,List.length_replicate];omega
end
section
variable {c:Nat} {b:List UInt8} {mo:Int} {N t:Nat} {H:AM.Heap} {lb nb rb:Nat} {la oa:Option Nat} {acc:List Int} {s:Is}
def dA (cl:Nat) (L:List Int) (rb nb lb:Nat):AM.Frame:=[(1,.ro cl (.pi .i64 L) 2),(3,.ptr rb 0 0 0),(5,.ptr nb 0 0 0),(7,.ptr lb 0 0 0),(8,.fn 63 [.ptr lb 0 0 0,.ptr nb 0 0 0,.ptr rb 0 0 0])]
theorem aav {m cl:Nat} {L:List Int} {E:AM.Heap} (h:AgV c b mo (N:Nat) t E lb nb rb 0 la oa acc s) (hs:fE b mo s) (hb:b.length≤100000) (he:s.e = 0) (hl:acc.length≤900) (hne:acc ≠ []):∃ E' la' oa' acc' s',AgV c b mo (N:Nat) t E' lb nb rb 0 la' oa' acc' s' ∧
    fO b mo (dG (gV b 2) fun u=>uX N acc (acc.getLastD 0) (3 + u.toNat)) s s' acc'∧(acc.length≤N + 1→acc'.length≤N + 1)∧(∀ a,la = some a→la' = some a)∧(∀ a,oa = some a→oa' = some a)∧E.length≤E'.length∧(la = none→∀ a,la' = some a→E.length≤a)∧(oa = none→∀ a,oa' = some a→E.length≤a)∧(∀ j,j < E.length→j ∉ [lb,nb,rb,0] ++ la.toList ++ oa.toList→E'[j]? = E[j]?)∧∃ fr,∃ code,((Try.f59.body).bind (aI [1,1,1,0,0,0,1,0,1,1,0,1,0,1])) = some code ∧
      Run X (evT X) 59 m code (dA cl L rb nb lb ++ [(37,.bool false)]) E ⟨.normal,fr,E'⟩∧aZ [1,3,5,7,8] fr = dA cl L rb nb lb:=by
  obtain ⟨E1,oa1,s1,u,h1,h2,h3,h4⟩:=iQ (n:=2) (I:=2) rfl h.d hs hb (by omega)
  obtain ⟨ua,ub⟩:=gJ h3 hs
  obtain ⟨u,rfl⟩:∃ u':Nat,u = (u':Int):=⟨u.toNat,by omega⟩
  have hV1:=h.reader h2 h4
  have hub:u < 2 ^ 2:=by omega
  have w:IntKind.i64.wrap (3 + (u:Int)) = ((3 + u:Nat):Int):=by rw [wrap_i64 (by omega) (by omega)];omega
  obtain ⟨τ3,hτ3,hb3⟩:=h.r
  obtain ⟨τ4,hτ4,hb4⟩:=hV1.r
  obtain ⟨⟨vo,τ1,τr,a1,a2,h0,ho⟩,hne0⟩:=id hV1.d
  simp only [bF,bxO] at h0 hb3 hb4
  by_cases he1:s1.e = 0
  · have hx:∃ x:Int,x = acc.getLastD 0:=⟨_,rfl⟩
    obtain ⟨x,hxe⟩:=hx
    obtain ⟨E2,la2,wu,s2,g1,g2,g3,g4,g5,g6,g7⟩:=TP (k:=3 + u) (x:=x) hV1 (by omega) (by omega)
    refine ⟨E2,la2,oa1,wu,s2,g2,?_,fun hh=>I5 g3 hh,g5,h4.same,Nat.le_trans h4.len g4,fun q1 a q2=>Nat.le_trans h4.len (g6 q1 a q2),fun q1 a q2=>h4.new a q1 q2,?_,dA cl L rb nb lb,_,rfl,?_,rfl⟩
    · have:=h3.toE.bnd (f:=fun u=>uX N acc x (3 + u.toNat)) (y:=wu) (by rw [Int.toNat_natCast];exact I4 h3.1 g3)
      rw [← hxe];exact this
    · intro j hj hjn
      rw [g7 j (Nat.lt_of_lt_of_le hj h4.len) ?_,h4.rest j hj (fun e=>hjn (by simp [e])) (fun a ha e=>hjn (by simp [ha,e]))]
      intro hm
      apply hjn
      simp only [List.mem_append] at hm ⊢
      rcases hm with hm | hm
      · exact .inl hm
      · cases ho1:oa with
        | some a=>rw [h4.same a ho1] at hm;exact .inr hm
        | none =>
          cases ho2:oa1 with
          | none=>rw [ho2] at hm;simp at hm
          | some a =>
            have:=h4.new a ho1 ho2
            rw [ho2] at hm;simp at hm;omega
    · rw [he1] at h0
      obtain ⟨lv,τ5,hτ5,hb5,hL⟩:=hV1.l
      have hla:∃ a,la = some a:=by
        cases hq:la with
        | none=>rw [hq] at hL;exact absurd hL.1 hne
        | some a=>exact ⟨a,rfl⟩
      obtain ⟨a,rfl⟩:=hla
      obtain ⟨g,τ6,ob,hτ6,rfl,q3,q4⟩:=hL
      have hg:=q4.g;have hp:=q4.p;have hi:=q4.ids
      have hlast:acc[acc.length - 1]? = some x:=by
        rw [hxe,List.getLastD_eq_getLast?,List.getLast?_eq_getElem?,List.getElem?_eq_getElem (by have:=List.length_pos_iff.2 hne;omega)];rfl
      have hlen0:0 < acc.length:=List.length_pos_iff.2 hne
      have w2:IntKind.i64.wrap ((acc.length:Int) - 1) = ((acc.length - 1:Nat):Int):=by rw [wrap_i64 (by omega) (by omega)];omega
      have hI:((acc.length - 1:Nat):Int) < (acc.length:Int):=by omega
      have hN1:acc.length - 1 < acc.length:=by omega
      have hgen:0 + (acc.length - 1) = acc.length - 1:=by omega
      simp only [bxO] at hb5
      simp only [dA]
      generalize 3 + u = v at *
      generalize acc.length - 1 = q at *
      generalize hlen:acc.length = M at *
      (refine ⟨0,?_⟩;simp (maxSteps:=2000000) -implicitDefEqProofs [-getElem?_pos,go_sem,eqV,ah,h1,hb3,hb4,hb5,h0,w,g1,q3,hg,hp,hi,w2,hI,hN1,hgen,hlast,ak])
  · refine ⟨E1,la,oa1,acc,s1,hV1,?_,fun hh=>hh,fun a ha=>ha,h4.same,h4.len,fun q1 a q2=>(by rw [q1] at q2;cases q2),fun q1 a q2=>h4.new a q1 q2,fun j hj hjn=>h4.rest j hj (fun e=>hjn (by simp [e])) (fun a ha e=>hjn (by simp [ha,e])),dA cl L rb nb lb ++ [(10,.int .i64 ((3 + u:Nat):Int)),(47,.bool false)],_,rfl,?_,?_⟩
    · exact h3.toE.bnd (f:=fun u=>uX N acc (acc.getLastD 0) (3 + u.toNat)) (fO.stop h3.1 he1)
    · have heb:(s1.e == 0) = false:=by simpa using he1
      simp only [dA]
      (refine ⟨0,?_⟩;simp (maxSteps:=2000000) -implicitDefEqProofs [-getElem?_pos,go_sem,eqV,ah,h1,hb3,hb4,h0,w,he1,heb,ak])
    · simp [aZ,dA,ay]
theorem aaw {m cl:Nat} {L:List Int} {E:AM.Heap} (h:AgV c b mo (N:Nat) t E lb nb rb 0 la oa acc s) (hs:fE b mo s) (hb:b.length≤100000) (he:s.e = 0) (hl:acc.length≤900):∃ E' la' oa' acc' s',AgV c b mo (N:Nat) t E' lb nb rb 0 la' oa' acc' s' ∧
    fO b mo (dG (gV b 3) fun u=>uX N acc (0) (3 + u.toNat)) s s' acc'∧(acc.length≤N + 1→acc'.length≤N + 1)∧(∀ a,la = some a→la' = some a)∧(∀ a,oa = some a→oa' = some a)∧E.length≤E'.length∧(la = none→∀ a,la' = some a→E.length≤a)∧(oa = none→∀ a,oa' = some a→E.length≤a)∧(∀ j,j < E.length→j ∉ [lb,nb,rb,0] ++ la.toList ++ oa.toList→E'[j]? = E[j]?)∧∃ fr,∃ code,((Try.f59.body).bind (aI [1,1,1,0,0,0,1,0,1,1,0,1,1,1,0])) = some code ∧
      Run X (evT X) 59 m code (dA cl L rb nb lb ++ [(9,.int .i64 (17:Int)),(28,.int .i64 (17:Int)),(57,.bool true)]) E ⟨.normal,fr,E'⟩∧aZ [1,3,5,7,8] fr = dA cl L rb nb lb:=by
  obtain ⟨E1,oa1,s1,u,h1,h2,h3,h4⟩:=iQ (n:=3) (I:=3) rfl h.d hs hb (by omega)
  obtain ⟨ua,ub⟩:=gJ h3 hs
  obtain ⟨u,rfl⟩:∃ u':Nat,u = (u':Int):=⟨u.toNat,by omega⟩
  have hV1:=h.reader h2 h4
  have hub:u < 2 ^ 3:=by omega
  have w:IntKind.i64.wrap (3 + (u:Int)) = ((3 + u:Nat):Int):=by rw [wrap_i64 (by omega) (by omega)];omega
  obtain ⟨τ3,hτ3,hb3⟩:=h.r
  obtain ⟨τ4,hτ4,hb4⟩:=hV1.r
  obtain ⟨⟨vo,τ1,τr,a1,a2,h0,ho⟩,hne0⟩:=id hV1.d
  simp only [bF,bxO] at h0 hb3 hb4
  by_cases he1:s1.e = 0
  · have hx:∃ x:Int,x = 0:=⟨_,rfl⟩
    obtain ⟨x,hxe⟩:=hx
    obtain ⟨E2,la2,wu,s2,g1,g2,g3,g4,g5,g6,g7⟩:=TP (k:=3 + u) (x:=x) hV1 (by omega) (by omega)
    refine ⟨E2,la2,oa1,wu,s2,g2,?_,fun hh=>I5 g3 hh,g5,h4.same,Nat.le_trans h4.len g4,fun q1 a q2=>Nat.le_trans h4.len (g6 q1 a q2),fun q1 a q2=>h4.new a q1 q2,?_,dA cl L rb nb lb,_,rfl,?_,rfl⟩
    · have:=h3.toE.bnd (f:=fun u=>uX N acc x (3 + u.toNat)) (y:=wu) (by rw [Int.toNat_natCast];exact I4 h3.1 g3)
      rw [← hxe];exact this
    · intro j hj hjn
      rw [g7 j (Nat.lt_of_lt_of_le hj h4.len) ?_,h4.rest j hj (fun e=>hjn (by simp [e])) (fun a ha e=>hjn (by simp [ha,e]))]
      intro hm
      apply hjn
      simp only [List.mem_append] at hm ⊢
      rcases hm with hm | hm
      · exact .inl hm
      · cases ho1:oa with
        | some a=>rw [h4.same a ho1] at hm;exact .inr hm
        | none =>
          cases ho2:oa1 with
          | none=>rw [ho2] at hm;simp at hm
          | some a =>
            have:=h4.new a ho1 ho2
            rw [ho2] at hm;simp at hm;omega
    · rw [he1] at h0
      subst hxe
      generalize 3 + u = v at *
      simp only [dA]
      (refine ⟨0,?_⟩;simp (maxSteps:=2000000) -implicitDefEqProofs [-getElem?_pos,go_sem,eqV,ah,h1,hb3,hb4,h0,w,g1,ak])
  · refine ⟨E1,la,oa1,acc,s1,hV1,?_,fun hh=>hh,fun a ha=>ha,h4.same,h4.len,fun q1 a q2=>(by rw [q1] at q2;cases q2),fun q1 a q2=>h4.new a q1 q2,fun j hj hjn=>h4.rest j hj (fun e=>hjn (by simp [e])) (fun a ha e=>hjn (by simp [ha,e])),dA cl L rb nb lb ++ [(11,.int .i64 ((3 + u:Nat):Int)),(66,.bool false)],_,rfl,?_,?_⟩
    · exact h3.toE.bnd (f:=fun u=>uX N acc (0) (3 + u.toNat)) (fO.stop h3.1 he1)
    · have heb:(s1.e == 0) = false:=by simpa using he1
      simp only [dA]
      (refine ⟨0,?_⟩;simp (maxSteps:=2000000) -implicitDefEqProofs [-getElem?_pos,go_sem,eqV,ah,h1,hb3,hb4,h0,w,he1,heb,ak])
    · simp [aZ,dA,ay]
theorem aax {m cl:Nat} {L:List Int} {E:AM.Heap} (h:AgV c b mo (N:Nat) t E lb nb rb 0 la oa acc s) (hs:fE b mo s) (hb:b.length≤100000) (he:s.e = 0) (hl:acc.length≤900):∃ E' la' oa' acc' s',AgV c b mo (N:Nat) t E' lb nb rb 0 la' oa' acc' s' ∧
    fO b mo (dG (gV b 7) fun u=>uX N acc (0) (11 + u.toNat)) s s' acc'∧(acc.length≤N + 1→acc'.length≤N + 1)∧(∀ a,la = some a→la' = some a)∧(∀ a,oa = some a→oa' = some a)∧E.length≤E'.length∧(la = none→∀ a,la' = some a→E.length≤a)∧(oa = none→∀ a,oa' = some a→E.length≤a)∧(∀ j,j < E.length→j ∉ [lb,nb,rb,0] ++ la.toList ++ oa.toList→E'[j]? = E[j]?)∧∃ fr,∃ code,((Try.f59.body).bind (aI [1,1,1,0,0,0,1,0,1,1,0,1,1,1,1,1,0])) = some code ∧
      Run X (evT X) 59 m code (dA cl L rb nb lb ++ [(9,.int .i64 (18:Int)),(70,.bool true)]) E ⟨.normal,fr,E'⟩∧aZ [1,3,5,7,8] fr = dA cl L rb nb lb:=by
  obtain ⟨E1,oa1,s1,u,h1,h2,h3,h4⟩:=iQ (n:=7) (I:=7) rfl h.d hs hb (by omega)
  obtain ⟨ua,ub⟩:=gJ h3 hs
  obtain ⟨u,rfl⟩:∃ u':Nat,u = (u':Int):=⟨u.toNat,by omega⟩
  have hV1:=h.reader h2 h4
  have hub:u < 2 ^ 7:=by omega
  have w:IntKind.i64.wrap (11 + (u:Int)) = ((11 + u:Nat):Int):=by rw [wrap_i64 (by omega) (by omega)];omega
  obtain ⟨τ3,hτ3,hb3⟩:=h.r
  obtain ⟨τ4,hτ4,hb4⟩:=hV1.r
  obtain ⟨⟨vo,τ1,τr,a1,a2,h0,ho⟩,hne0⟩:=id hV1.d
  simp only [bF,bxO] at h0 hb3 hb4
  by_cases he1:s1.e = 0
  · have hx:∃ x:Int,x = 0:=⟨_,rfl⟩
    obtain ⟨x,hxe⟩:=hx
    obtain ⟨E2,la2,wu,s2,g1,g2,g3,g4,g5,g6,g7⟩:=TP (k:=11 + u) (x:=x) hV1 (by omega) (by omega)
    refine ⟨E2,la2,oa1,wu,s2,g2,?_,fun hh=>I5 g3 hh,g5,h4.same,Nat.le_trans h4.len g4,fun q1 a q2=>Nat.le_trans h4.len (g6 q1 a q2),fun q1 a q2=>h4.new a q1 q2,?_,dA cl L rb nb lb,_,rfl,?_,rfl⟩
    · have:=h3.toE.bnd (f:=fun u=>uX N acc x (11 + u.toNat)) (y:=wu) (by rw [Int.toNat_natCast];exact I4 h3.1 g3)
      rw [← hxe];exact this
    · intro j hj hjn
      rw [g7 j (Nat.lt_of_lt_of_le hj h4.len) ?_,h4.rest j hj (fun e=>hjn (by simp [e])) (fun a ha e=>hjn (by simp [ha,e]))]
      intro hm
      apply hjn
      simp only [List.mem_append] at hm ⊢
      rcases hm with hm | hm
      · exact .inl hm
      · cases ho1:oa with
        | some a=>rw [h4.same a ho1] at hm;exact .inr hm
        | none =>
          cases ho2:oa1 with
          | none=>rw [ho2] at hm;simp at hm
          | some a =>
            have:=h4.new a ho1 ho2
            rw [ho2] at hm;simp at hm;omega
    · rw [he1] at h0
      subst hxe
      generalize 11 + u = v at *
      simp only [dA]
      (refine ⟨0,?_⟩;simp (maxSteps:=2000000) -implicitDefEqProofs [-getElem?_pos,go_sem,eqV,ah,h1,hb3,hb4,h0,w,g1,ak])
  · refine ⟨E1,la,oa1,acc,s1,hV1,?_,fun hh=>hh,fun a ha=>ha,h4.same,h4.len,fun q1 a q2=>(by rw [q1] at q2;cases q2),fun q1 a q2=>h4.new a q1 q2,fun j hj hjn=>h4.rest j hj (fun e=>hjn (by simp [e])) (fun a ha e=>hjn (by simp [ha,e])),dA cl L rb nb lb ++ [(12,.int .i64 ((11 + u:Nat):Int)),(79,.bool false)],_,rfl,?_,?_⟩
    · exact h3.toE.bnd (f:=fun u=>uX N acc (0) (11 + u.toNat)) (fO.stop h3.1 he1)
    · have heb:(s1.e == 0) = false:=by simpa using he1
      simp only [dA]
      (refine ⟨0,?_⟩;simp (maxSteps:=2000000) -implicitDefEqProofs [-getElem?_pos,go_sem,eqV,ah,h1,hb3,hb4,h0,w,he1,heb,ak])
    · simp [aZ,dA,ay]
end
end Go.Proofs.Yteblpjhkgdpchaa
namespace Go.Proofs.Yteblpjhkgdpchaa
open Go.AM
section
variable {c:Nat} {b:List UInt8} {mo:Int} {N t:Nat} {H:AM.Heap} {lb nb rb:Nat} {la oa:Option Nat} {acc:List Int} {s:Is}
theorem aay {m cl j:Nat} {L:List Int} {E:AM.Heap} (h:AgV c b mo (N:Nat) t E lb nb rb 0 la oa acc s) (hl:acc.length≤900):∃ E' la',AgV c b mo (N:Nat) t E' lb nb rb 0 la' oa (acc ++ [(j:Int)]) s∧∃ code,((Try.f59.body).bind (aI [1,1,1,0,0,0,1,0,1,1,0,1,1,1,1,1,1])) = some code ∧
    Run X (evT X) 59 m code (dA cl L rb nb lb ++ [(9,.int .i64 (j:Nat)),(70,.bool false)]) E ⟨.normal,dA cl L rb nb lb,E'⟩:=by
  obtain ⟨n1,n2,n3,n4,n5,n6,n7,n8⟩:=h.ne
  obtain ⟨l1,l2,l3,l4,l5,l6⟩:=h.lt
  obtain ⟨lv,τ,hτ,hb,hL⟩:=h.l
  obtain ⟨lv',E1,la',hA,hL',hm,hnw,hlen,hk,a,g,hlv⟩:=hL.app (j:Int) (by omega)
  have hb':E1[lb]? = some (some (bxO lv τ)):=by rw [hk lb l1 (fun a ha=>(n7 a ha).1)];exact hb
  have hla:∀ a,la' = some a→a ≠ lb:=by
    intro a ha e
    cases hq:la with
    | none=>rw [hnw hq] at ha;cases ha;omega
    | some z=>rw [hm z hq] at ha;cases ha;exact (n7 _ hq).1 e.symm
  have hrd:IrV c b mo t E1 0 oa s:=h.d.keep (hk 0 l4 (fun a ha=>(n7 a ha).2.2.2.1)) fun a ha=>hk a (l6 a ha) (fun z hz=>Ne.symm ((n7 z hz).2.2.2.2 a ha))
  refine ⟨AM.upd E1 lb (some (bxO lv' τ)),la',⟨⟨lv',τ,hτ,setAt hb',hL'.keep fun a ha=>by unfold AM.upd;rw [List.getElem?_set_ne (Ne.symm (hla a ha))]⟩,?_,?_,hrd.other n3 (fun a ha=>(n8 a ha).1),?_⟩,_,rfl,?_⟩
  · obtain ⟨τ2,h1,h2⟩:=h.n
    exact ⟨τ2,h1,vG (by rw [hk nb l2 (fun a ha=>(n7 a ha).2.1)];exact h2) n1⟩
  · obtain ⟨τ2,h1,h2⟩:=h.r
    exact ⟨τ2,h1,vG (by rw [hk rb l3 (fun a ha=>(n7 a ha).2.2.1)];exact h2) n2⟩
  · cases hq:la with
    | some z=>rw [hm z hq,← hq];exact h.nd
    | none =>
      rw [hnw hq]
      have hn:=h.nd
      rw [hq] at hn
      cases oa with
      | none=>simp at hn ⊢;omega
      | some z=>have:=l6 z rfl;simp at hn ⊢;omega
  · subst hlv
    have hbs:=bsI E (j:Int)
    simp only [bxO] at hb hb' ⊢
    simp only [dA]
    generalize (acc ++ [(j:Int)]).length = M at *
    (refine ⟨0,?_⟩;simp (maxSteps:=2000000) -implicitDefEqProofs [-getElem?_pos,go_sem,eqV,ah,hb,hb',hbs,hA])
def LeF (cl:Nat) (L:List Int) (rb nb lb:Nat) (fr:AM.Frame):Prop:=ay fr 1 = .ro cl (.pi .i64 L) 2∧ay fr 3 = .ptr rb 0 0 0∧ay fr 5 = .ptr nb 0 0 0∧ay fr 7 = .ptr lb 0 0 0∧ay fr 8 = .fn 63 [.ptr lb 0 0 0,.ptr nb 0 0 0,.ptr rb 0 0 0]
theorem LeF.of {cl:Nat} {L:List Int} {fr:AM.Frame} (h:aZ [1,3,5,7,8] fr = dA cl L rb nb lb):LeF cl L rb nb lb fr:=by
  simpa [aZ,dA,LeF] using h
theorem X6 {m cl:Nat} {L:List Int} {E:AM.Heap} (h:AgV c b mo (N:Nat) t E lb nb rb 0 la oa acc s):∃ code,((Try.f59.body).bind (aI [1,1,1,0,0,0,1,0,1,1,0,1,0,0,0])) = some code∧Run X (evT X) 59 m code (dA cl L rb nb lb ++ [(9,.int .i64 16),(28,.int .i64 16),(33,.bool true)]) E ⟨.normal,dA cl L rb nb lb ++ [(37,.bool (acc.length == 0))],E⟩:=by
  refine ⟨_,rfl,?_⟩
  obtain ⟨lv,τ,hτ,hb,hL⟩:=h.l
  simp only [bxO] at hb
  cases la with
  | none =>
    obtain ⟨h1,τ4,hτ4,rfl⟩:=hL
    rw [h1]
    simp only [dA]
    (refine ⟨0,?_⟩;simp (maxSteps:=2000000) -implicitDefEqProofs [-getElem?_pos,go_sem,eqV,ah,hb])
  | some a =>
    obtain ⟨g,τ4,ob,hτ4,rfl,h3,h4⟩:=hL
    have hg:=h4.g
    have hd:(acc.length == 0) = ((acc.length:Int) == 0):=by
      by_cases h1:acc.length = 0
      · rw [h1];rfl
      · rw [show (acc.length == 0) = false by simpa using h1,show ((acc.length:Int) == 0) = false from beq_eq_false_iff_ne.2 (by omega)]
    rw [hd]
    simp only [dA]
    generalize acc.length = q at *
    (refine ⟨0,?_⟩;simp (maxSteps:=2000000) -implicitDefEqProofs [-getElem?_pos,go_sem,eqV,ah,hb,h3,hg])
theorem WQ {m cl:Nat} {L:List Int} {E:AM.Heap} (h:AgV c b mo (N:Nat) t E lb nb rb 0 la oa acc s) (hs:fE b mo s) (hb:b.length≤100000) (he:s.e = 0) (hl:acc.length≤900) (hlN:acc.length < N) (hLl:L.length < 9223372036854775808) :
    ∃ E' la' oa' acc' s',AgV c b mo (N:Nat) t E' lb nb rb 0 la' oa' acc' s'∧fO b mo (dG (uh b L) fun j=>CX b N acc j) s s' acc'∧acc'.length≤N + 1∧(∀ a,oa = some a→oa' = some a) ∧
      ∃ fr,LeF cl L rb nb lb fr∧∃ code,((Try.f59.body).bind (aI [1,1,1,0,0,0,1])) = some code∧Run X (evT X) 59 m code (dA cl L rb nb lb ++ [(24,.bool true)]) E ⟨.normal,fr,E'⟩:=by
  obtain ⟨E1,oa1,s1,j,h1,h2,h3,h4⟩:=AQ (a:=.ro cl (.pi .i64 L) 2) (l:=L) h.d hs hb rfl (fun x hx=>by cases hx) hLl
  have hV1:=h.reader h2 h4
  obtain ⟨τ3,hτ3,hb3⟩:=h.r
  obtain ⟨τ4,hτ4,hb4⟩:=hV1.r
  simp only [bxO] at hb3 hb4
  have hj0:s1.e ≠ 0→j = 0:=fun h=>(h3.err he h).2
  have hlf:LeF cl L rb nb lb (dA cl L rb nb lb):=LeF.of rfl
  -- what stands before the choice
  have hhead:∀ (E2:AM.Heap) (fr2:AM.Frame),(∃ code,((Try.f59.body).bind (aI [1,1,1,0,0,0,1,0,1,1])) = some code∧Run X (evT X) 59 m code (dA cl L rb nb lb ++ [(9,.int .i64 (j:Nat)),(28,.int .i64 (j:Nat))]) E1 ⟨.normal,fr2,E2⟩)→∃ code,((Try.f59.body).bind (aI [1,1,1,0,0,0,1])) = some code∧Run X (evT X) 59 m code (dA cl L rb nb lb ++ [(24,.bool true)]) E ⟨.normal,fr2,E2⟩:=by
    intro E2 fr2 hh
    refine ⟨_,rfl,?_⟩
    apply Run.block
    · apply Run.seq (fr':=dA cl L rb nb lb ++ [(9,.int .i64 (j:Nat))]) (H':=E1)
      · simp only [dA]
        (refine ⟨0,?_⟩;simp (maxSteps:=2000000) -implicitDefEqProofs [-getElem?_pos,go_sem,eqV,ah,hb3,h1,ak])
      apply Run.seq (fr':=dA cl L rb nb lb ++ [(9,.int .i64 (j:Nat)),(28,.int .i64 (j:Nat))]) (H':=E1)
      · simp only [dA]
        (refine ⟨0,?_⟩;simp (maxSteps:=2000000) -implicitDefEqProofs [-getElem?_pos,go_sem,eqV,ah])
      exact piece hh _ rfl
    · simp
  by_cases he1:¬ s1.e = 0∨(j ≠ 16∧j ≠ 17∧j ≠ 18)
  · -- a length,or nothing any more
    have hjn:j ≠ 16∧j ≠ 17∧j ≠ 18:=by
      rcases he1 with h | h
      · rw [hj0 h];omega
      · exact h
    obtain ⟨E2,la2,v1,hr6⟩:=aay (m:=m) (cl:=cl) (L:=L) (j:=j) hV1 hl
    refine ⟨E2,la2,oa1,acc ++ [(j:Int)],s1,v1,?_,by simp;omega,h4.same,_,hlf,hhead E2 _ ⟨_,rfl,?_⟩⟩
    · refine h3.toE.bnd (f:=fun j=>CX b N acc j) ?_
      by_cases h0:s1.e = 0
      · refine ⟨h3.1,?_⟩
        rw [if_pos h0]
        unfold CX
        rw [if_neg hjn.1,if_neg hjn.2.1,if_neg hjn.2.2]
        exact ⟨by rw [← h0],rfl⟩
      · exact fO.stop h3.1 h0
    · have e1:((j:Int) == 16) = false:=by simp;omega
      have e2:((j:Int) == 17) = false:=by simp;omega
      have e3:((j:Int) == 18) = false:=by simp;omega
      have f1:¬ (j:Int) = 16:=by omega
      have f2:¬ (j:Int) = 17:=by omega
      have f3:¬ (j:Int) = 18:=by omega
      apply Run.block
      · apply Run.seq (fr':=dA cl L rb nb lb ++ [(9,.int .i64 (j:Nat)),(28,.int .i64 (j:Nat)),(33,.bool false)]) (H':=E1)
        · simp only [dA]
          (refine ⟨0,?_⟩;simp (maxSteps:=2000000) -implicitDefEqProofs [-getElem?_pos,go_sem,eqV,ah,e1,f1,ak])
        refine Run.cond (d:=false) (by simp [dA,aJ,ay]) ?_
        apply Run.seq (fr':=dA cl L rb nb lb ++ [(9,.int .i64 (j:Nat)),(28,.int .i64 (j:Nat)),(57,.bool false)]) (H':=E1)
        · simp only [dA]
          (refine ⟨0,?_⟩;simp (maxSteps:=2000000) -implicitDefEqProofs [-getElem?_pos,go_sem,eqV,ah,e2,f2,ak])
        refine Run.cond (d:=false) (by simp [dA,aJ,ay]) ?_
        apply Run.seq (fr':=dA cl L rb nb lb ++ [(9,.int .i64 (j:Nat)),(70,.bool false)]) (H':=E1)
        · simp only [dA]
          (refine ⟨0,?_⟩;simp (maxSteps:=2000000) -implicitDefEqProofs [-getElem?_pos,go_sem,eqV,ah,e3,f3,ak])
        refine Run.cond (d:=false) (by simp [dA,aJ,ay]) ?_
        exact piece hr6 _ rfl
      · simp
  have YO:s1.e = 0:=Classical.not_not.1 fun h=>he1 (.inl h)
  by_cases h16:j = 16
  · subst h16
    by_cases ha0:acc = []
    · obtain ⟨E2,g1,g2,g3⟩:=lG (e:=5) hV1.d
      refine ⟨E2,la,oa1,acc,_,hV1.reader g2 g3,?_,by omega,h4.same,_,hlf,hhead E2 _ ⟨_,rfl,?_⟩⟩
      · refine h3.toE.bnd (f:=fun j=>CX b N acc j) ?_
        show fO b mo (if acc = [] then nK 5 else _) s1 _ acc
        rw [if_pos ha0]
        exact (bV.bad (d:=acc) h3.1 (by simp)).toE
      · have h8:=X6 (m:=m) (cl:=cl) (L:=L) hV1
        rw [ha0] at h8
        apply Run.iU
        apply Run.seq (fr':=dA cl L rb nb lb ++ [(9,.int .i64 16),(28,.int .i64 16),(33,.bool true)]) (H':=E1)
        · simp only [dA]
          (refine ⟨0,?_⟩;simp (maxSteps:=2000000) -implicitDefEqProofs [-getElem?_pos,go_sem,eqV,ah,ak])
        refine Run.cond (d:=true) (by simp [dA,aJ,ay]) ?_
        apply Run.bG
        · apply Run.seq (piece h8 _ rfl)
          refine Run.cond (d:=true) (by simp [dA,aJ,ay]) ?_
          apply Run.seq (fr':=dA cl L rb nb lb) (H':=E2)
          · simp only [dA]
            (refine ⟨0,?_⟩;simp (maxSteps:=2000000) -implicitDefEqProofs [-getElem?_pos,go_sem,eqV,ah,hb4,g1])
          · exact ⟨0,rfl⟩
        · simp
    · obtain ⟨E2,la2,oa2,wu,s2,g1,g2,g3,g4,g5,g6,_,_,_,fr,hr⟩:=aav (m:=m) (cl:=cl) (L:=L) hV1 h3.1 hb YO hl ha0
      obtain ⟨code,hcode,hrun,hkf⟩:=hr
      refine ⟨E2,la2,oa2,wu,s2,g1,?_,g3 (by omega),fun a ha=>g5 a (h4.same a ha),fr,LeF.of hkf,hhead E2 fr ⟨_,rfl,?_⟩⟩
      · refine h3.toE.bnd (f:=fun j=>CX b N acc j) ?_
        show fO b mo (if acc = [] then nK 5 else _) s1 _ wu
        rw [if_neg ha0]
        exact g2
      · have h8:=X6 (m:=m) (cl:=cl) (L:=L) hV1
        rw [show (acc.length == 0) = false by simp;exact ha0] at h8
        apply Run.block
        · apply Run.seq (fr':=dA cl L rb nb lb ++ [(9,.int .i64 16),(28,.int .i64 16),(33,.bool true)]) (H':=E1)
          · simp only [dA]
            (refine ⟨0,?_⟩;simp (maxSteps:=2000000) -implicitDefEqProofs [-getElem?_pos,go_sem,eqV,ah,ak])
          refine Run.cond (d:=true) (by simp [dA,aJ,ay]) ?_
          apply Run.seq (fr':=dA cl L rb nb lb ++ [(37,.bool false)]) (H':=E1)
          · apply Run.seq (piece h8 _ rfl)
            exact Run.cond (d:=false) (by simp [dA,aJ,ay]) ⟨0,rfl⟩
          exact (Option.some.inj hcode) ▸ hrun
        · simp
  by_cases h17:j = 17
  · subst h17
    obtain ⟨E2,la2,oa2,wu,s2,g1,g2,g3,g4,g5,g6,_,_,_,fr,hr⟩:=aaw (m:=m) (cl:=cl) (L:=L) hV1 h3.1 hb YO hl
    obtain ⟨code,hcode,hrun,hkf⟩:=hr
    refine ⟨E2,la2,oa2,wu,s2,g1,?_,g3 (by omega),fun a ha=>g5 a (h4.same a ha),fr,LeF.of hkf,hhead E2 fr ⟨_,rfl,?_⟩⟩
    · exact h3.toE.bnd (f:=fun j=>CX b N acc j) g2
    · apply Run.block
      · apply Run.seq (fr':=dA cl L rb nb lb ++ [(9,.int .i64 17),(28,.int .i64 17),(33,.bool false)]) (H':=E1)
        · simp only [dA]
          (refine ⟨0,?_⟩;simp (maxSteps:=2000000) -implicitDefEqProofs [-getElem?_pos,go_sem,eqV,ah,ak])
        refine Run.cond (d:=false) (by simp [dA,aJ,ay]) ?_
        apply Run.seq (fr':=dA cl L rb nb lb ++ [(9,.int .i64 17),(28,.int .i64 17),(57,.bool true)]) (H':=E1)
        · simp only [dA]
          (refine ⟨0,?_⟩;simp (maxSteps:=2000000) -implicitDefEqProofs [-getElem?_pos,go_sem,eqV,ah,ak])
        refine Run.cond (d:=true) (by simp [dA,aJ,ay]) ?_
        exact (Option.some.inj hcode) ▸ hrun
      · simp
  have h18:j = 18:=by
    refine Classical.byContradiction fun h=>?_
    exact he1 (.inr ⟨h16,h17,h⟩)
  subst h18
  obtain ⟨E2,la2,oa2,wu,s2,g1,g2,g3,g4,g5,g6,_,_,_,fr,hr⟩:=aax (m:=m) (cl:=cl) (L:=L) hV1 h3.1 hb YO hl
  obtain ⟨code,hcode,hrun,hkf⟩:=hr
  refine ⟨E2,la2,oa2,wu,s2,g1,?_,g3 (by omega),fun a ha=>g5 a (h4.same a ha),fr,LeF.of hkf,hhead E2 fr ⟨_,rfl,?_⟩⟩
  · exact h3.toE.bnd (f:=fun j=>CX b N acc j) g2
  · apply Run.block
    · apply Run.seq (fr':=dA cl L rb nb lb ++ [(9,.int .i64 18),(28,.int .i64 18),(33,.bool false)]) (H':=E1)
      · simp only [dA]
        (refine ⟨0,?_⟩;simp (maxSteps:=2000000) -implicitDefEqProofs [-getElem?_pos,go_sem,eqV,ah,ak])
      refine Run.cond (d:=false) (by simp [dA,aJ,ay]) ?_
      apply Run.seq (fr':=dA cl L rb nb lb ++ [(9,.int .i64 18),(28,.int .i64 18),(57,.bool false)]) (H':=E1)
      · simp only [dA]
        (refine ⟨0,?_⟩;simp (maxSteps:=2000000) -implicitDefEqProofs [-getElem?_pos,go_sem,eqV,ah,ak])
      refine Run.cond (d:=false) (by simp [dA,aJ,ay]) ?_
      apply Run.seq (fr':=dA cl L rb nb lb ++ [(9,.int .i64 18),(70,.bool true)]) (H':=E1)
      · simp only [dA]
        (refine ⟨0,?_⟩;simp (maxSteps:=2000000) -implicitDefEqProofs [-getElem?_pos,go_sem,eqV,ah,ak])
      refine Run.cond (d:=true) (by simp [dA,aJ,ay]) ?_
      exact (Option.some.inj hcode) ▸ hrun
    · simp
end
end Go.Proofs.Yteblpjhkgdpchaa
namespace Go.Proofs.Yteblpjhkgdpchaa
open Go.AM
section
variable {c:Nat} {b:List UInt8} {mo:Int} {t:Nat} {H:AM.Heap} {o:Nat} {oa:Option Nat} {s:Is}
theorem YP (s:Is) (r:Bool) (i:Nat):wtF [] i (irS c b mo s r)≤1:=by
  cases r <;> simp [irS,wtF,kids,bF,ids,aB]
theorem AU {f n:Nat} {fn:Func} {code:Code} {xs ys:List AV} {Q:Is→AV→List AV→Prop} (hF:X.P.funcs[f]? = some fn) (hb:fn.body = some code) (hrw:X.rw f 0 = false) (h:IrV c b mo t H o oa s)
    (hA:∀ π K,π.map Prod.fst = o :: oa.toList→fD X f H π K 1 xs ys) (hi:aB ys = []) (hn:xs.length + 2 = n) (hng:n < dM)
    (run:∀ m E oa1,oa1.isSome = oa.isSome→(∀ a,oa1 = some a→a = 1)→E.length = (if oa.isSome then 2 else 1)→IrV c b mo n E 0 oa1 s→∃ code,fn.body = some code∧aj (jZ fun fr E'=>∃ s' oa' l ex ps w0,aQ X fr E' fn.results.toList = some l∧IrV c b mo n E' 0 oa' s'∧(∀ a,oa1 = some a→oa' = some a) ∧
      dZ n E' ex ps∧(∀ p ∈ ps,ids p = []∧tags p = [])∧(0 :: oa'.toList ++ ex.map Prod.fst).Nodup∧(ids w0).length≤1000∧(∀ k ∈ ids w0,k < ex.length)∧(∀ k,k < ex.length→k ∈ ids w0)∧(∀ k ∈ tags w0,k = 0∨k = n)∧aO l = ren (eu ex) (fun t=>t) w0∧Q s' w0 ps)
      X (evT X) f m code (numbered 0 (coerce X (.ptr 0 0 0 0 :: ys) (aF X f))) E) :
    ∃ H' oa' s' w0 ex ps τf,evT X f (.ptr o 0 0 0 :: xs) H = some (ren (eu ex) τf w0,H')∧(∀ k ∈ tags w0,τf k = 0∨τf k = t)∧IrV c b mo t H' o oa' s'∧dZ t H' ex ps∧(∀ x ∈ ex,H.length≤x.1)∧(o :: oa'.toList ++ ex.map Prod.fst).Nodup∧Q s' w0 ps∧Kpt H H' o oa oa':=by
  obtain ⟨π,hI,hπ,hπ0⟩:=h.img
  have hK:0 < (irS c b mo s oa.isSome).length:=by rw [fJ];split <;> omega
  have hA2:fD X f H π (irS c b mo s oa.isSome).length 0 (.ptr o 0 0 0 :: xs) (.ptr 0 0 0 0 :: ys):=fD.ptr hI hrw hπ0 hK (hA π _ hπ)
  have hso:∀ {H:AM.Heap} {t o:Nat} {oa:Option Nat} {s:Is},IrV c b mo t H o oa s→oa.isSome = false→s.o = []:=by
    intro H t o oa s h h1
    cases oa with
    | some a=>cases h1
    | none=>obtain ⟨⟨vo,τ1,τ,_,_,_,ho⟩,_⟩:=h;exact ho.1
  obtain ⟨π'',S',v0,H',τf,hE,hτf,hI',hok',hid,⟨s',w0,ps,r',hS',hv0,hr',hQ,hf,hmono,hiw⟩,hlen,hfix,hnew,hrest⟩:=Ev1.img (C:=X) (T:=evT X) (f:=f) (H:=H) (n:=n) (ys:=.ptr 0 0 0 0 :: ys)
    (Q:=fun S' v0=>∃ s' w0 ps r',S' = irS c b mo s' r' ++ ps.map rwF∧v0 = cu (irS c b mo s' r').length w0∧(r' = false→s'.o = [])∧Q s' w0 ps∧(∀ p ∈ ps,ids p = []∧tags p = [])∧(oa.isSome = true→r' = true)∧∀ k ∈ ids w0,k < ps.length) (dL X) hF hb hI (A8 c b mo s _) hA2
    (by rw [show aB (AV.ptr 0 0 0 0 :: ys) = [0] by simp [aB,ids,hi]];exact Ba c b mo s _) (by simp;omega) hng (by
      intro E hEl hEI
      obtain ⟨oa1,hV,hπ1,hs1,ED⟩:=IrV.nM hEI (by rw [qw,if_pos hK]) (hso h)
      have ha1:∀ a,oa1 = some a→a = 1:=by
        intro a ha
        obtain ⟨g,hg⟩:=ED a ha
        rw [qw] at hg
        split at hg
        · simp at hg;omega
        · cases hg
      obtain ⟨oN,hc2,out,hout,hrun⟩:=run (irS c b mo s oa.isSome).length E oa1 hs1 ha1 (by rw [hEl,fJ]) hV
      rw [hb] at hc2
      obtain rfl:=Option.some.inj hc2
      refine ⟨out,⟨hout.1,?_⟩,hrun⟩
      obtain ⟨s',oa',l,ex,ps,w0,hr,hV',hm,KX,hf,hnd,hw0,hw1,hw2,hw3,hw4,hQ⟩:=hout.2
      obtain ⟨π',hI',hπ',EF⟩:=hV'.img
      have hnd':(π'.map Prod.fst ++ ex.map Prod.fst).Nodup:=by rw [hπ'];exact hnd
      have hI2:=hI'.append (A8 c b mo s' _) KX hf hnd'
      have hlr:=hI'.len
      have YQ:=KX.len
      have RG:(irS c b mo s' oa'.isSome ++ ps.map rwF).length = (irS c b mo s' oa'.isSome).length + ex.length:=by simp [YQ]
      have aeP:(irS c b mo s oa.isSome).length≤(irS c b mo s' oa'.isSome).length:=by
        rw [fJ,fJ]
        cases hx:oa1 with
        | none=>rw [← hs1,hx];cases oa'.isSome <;> simp
        | some a=>rw [hm a hx];split <;> simp
      have jS:=RH (irS c b mo s' oa'.isSome).length w0
      have hfuel:(List.range (irS c b mo s oa.isSome).length ++ ids (cu (irS c b mo s' oa'.isSome).length w0)).length + wtF [] 0 (irS c b mo s' oa'.isSome ++ ps.map rwF)≤aA:=by
        rw [I7,EG,jS]
        have h1:=YP (c:=c) (b:=b) (mo:=mo) s' oa'.isSome 0
        have h2:(irS c b mo s oa.isSome).length≤2:=by rw [fJ];split <;> omega
        simp only [List.length_append,List.length_range,List.length_map]
        show _≤100000
        omega
      refine ⟨π' ++ ex,irS c b mo s' oa'.isSome ++ ps.map rwF,cu (irS c b mo s' oa'.isSome).length w0,l,hr,?_,hI2,(A8 c b mo s' _).rows hf,?_,?_,by rw [RG];omega,?_,?_,?_,s',w0,ps,oa'.isSome,rfl,rfl,hso hV',hQ,hf,?_,fun k hk=>by rw [← YQ];exact hw1 k hk⟩
      · rw [RI hlr];exact hw4
      · rw [EH];exact hw3
      · intro k hk
        rw [jS] at hk
        obtain ⟨k',hk',rfl⟩:=List.mem_map.1 hk
        have:=hw1 k' hk'
        rw [RG]
        omega
      · intro k hk
        rw [fJ] at hk
        have hk0:k = 0∨(k = 1∧oa.isSome = true):=by
          split at hk
          · rename_i hq
            have:k = 0∨k = 1:=by omega
            rcases this with h | h
            · exact .inl h
            · exact .inr ⟨h,hq⟩
          · exact .inl (by omega)
        have aeQ:0 < π'.length:=by rw [hlr,fJ];split <;> omega
        rcases hk0 with rfl | ⟨rfl,hq⟩
        · exact ⟨0,by rw [List.getElem?_append_left aeQ];exact EF⟩
        · rw [← hs1] at hq
          obtain ⟨a,ha⟩:=Option.isSome_iff_exists.1 hq
          have:=ha1 a ha
          subst this
          have Uw:=hm 1 ha
          have h1:(π'.map Prod.fst)[1]? = some 1:=by rw [hπ',Uw];rfl
          rw [List.getElem?_map] at h1
          cases hp:π'[1]? with
          | none=>rw [hp] at h1;cases h1
          | some x =>
            rw [hp] at h1
            simp at h1
            exact ⟨x.2,by rw [List.getElem?_append_left (eP hp),hp,← h1]⟩
      · intro k ob ob' h1 h2
        have hkl:=eP h1
        rw [List.getElem?_append_left (by omega)] at h2
        cases hx:oa.isSome <;> cases hy:oa'.isSome <;> rw [hx] at h1 <;> rw [hy] at h2
        all_goals
          match k,h1,h2 with
          | 0,h1,h2 =>
            have e1:=Option.some.inj h1
            have e2:=Option.some.inj h2
            subst e1 e2;rfl
          | 1,h1,h2=>first | (simp [irS] at h1;done) | (simp [irS] at h2;done) | (
            have e1:=Option.some.inj h1
            have e2:=Option.some.inj h2
            subst e1 e2;rfl)
          | k + 2,h1,h2=>simp [irS] at h1
      · intro k hk1 hk2
        rw [RG] at hk2
        by_cases hkr:k < (irS c b mo s' oa'.isSome).length
        · have hk:k = 1∧oa'.isSome = true:=by
            rw [fJ] at hkr hk1
            cases hx:oa'.isSome
            · rw [hx] at hkr;simp at hkr;split at hk1 <;> omega
            · rw [hx] at hkr;simp at hkr;split at hk1
              · omega
              · exact ⟨by omega,rfl⟩
          obtain ⟨rfl,hy⟩:=hk
          refine GV hfuel (x:=0) (ob:=bF c b mo s' (.sl 1 0 s'.o.length 0) 0 0) (uG hfuel (List.mem_append_left _ (List.mem_range.2 hK)) (by rw [RG];omega)) ?_ (by simp [kids,bF,ids,aB]) (by rw [RG];omega)
          rw [List.getElem?_append_left (by omega),hy];rfl
        · refine uG hfuel (List.mem_append_right _ ?_) (by rw [RG];omega)
          rw [jS]
          exact List.mem_map.2 ⟨k - (irS c b mo s' oa'.isSome).length,hw2 _ (by omega),by omega⟩
      · intro hq
        rw [← hs1] at hq
        obtain ⟨a,ha⟩:=Option.isSome_iff_exists.1 hq
        rw [hm a ha];rfl)
  subst hS' hv0
  obtain ⟨g0,hg0⟩:=hfix 0 o 0 hπ0
  have hI3:=hI'.pre (A8 c b mo s' r')
  have hRw:=hI'.rows hf
  have Ux:g0 = 0:=by
    obtain ⟨o',g',ob,q1,q2,q3⟩:=hI3.ob 0 _ (by cases r' <;> rfl:(irS c b mo s' r')[0]? = some (bF c b mo s' (if r' then .sl 1 0 s'.o.length 0 else .ro 0 .pn 0) 0 0))
    rw [List.getElem?_take] at q1
    split at q1
    · rw [hg0] at q1
      simp only [Option.some.injEq,Prod.mk.injEq] at q1
      obtain ⟨_,rfl⟩:=q1
      exact (q3.bx rfl).2.2
    · cases q1
  subst Ux
  have hrl:0 < (irS c b mo s' r').length:=by rw [fJ];split <;> omega
  obtain ⟨oa',hV',Uy,hs',hat'⟩:=IrV.nM hI3 (by rw [List.getElem?_take,if_pos hrl];exact hg0) hr'
  rw [N8] at hE
  have aeP:(irS c b mo s oa.isSome).length≤(irS c b mo s' r').length:=by
    rw [fJ,fJ]
    cases hx:oa.isSome
    · simp;split <;> omega
    · rw [hmono hx];simp
  refine ⟨H',oa',s',w0,_,ps,τf,fH hE,?_,hV',hRw,?_,?_,hQ,⟨hlen,?_,?_,?_⟩⟩
  · intro k hk
    exact hτf k (by rw [EH];exact hk)
  · intro x hx
    obtain ⟨k,hk,rfl⟩:=List.mem_iff_getElem.1 hx
    rw [List.getElem_drop]
    have hkl:(irS c b mo s' r').length + k < π''.length:=by simp at hk;omega
    exact hnew ((irS c b mo s' r').length + k) _ _ (by omega) (List.getElem?_eq_getElem hkl)
  · have:=hI'.nodup
    rw [show π''.map Prod.fst = (π''.take (irS c b mo s' r').length).map Prod.fst ++ (π''.drop (irS c b mo s' r').length).map Prod.fst by rw [← List.map_append,List.take_append_drop],Uy] at this
    exact this
  · intro a ha
    subst ha
    cases oa' with
    | none =>
      have:=hmono rfl
      rw [this] at hs';cases hs'
    | some a' =>
      obtain ⟨g,hg⟩:=hat' a' rfl
      rw [List.getElem?_take] at hg
      split at hg
      · have h1:(π.map Prod.fst)[1]? = some a:=by rw [hπ];rfl
        rw [List.getElem?_map] at h1
        cases hp:π[1]? with
        | none=>rw [hp] at h1;cases h1
        | some x =>
          rw [hp] at h1
          simp at h1
          obtain ⟨g2,hg2⟩:=hfix 1 x.1 x.2 hp
          rw [hg] at hg2
          simp at hg2
          rw [hg2.1,h1]
      · cases hg
  · intro a ha ha'
    subst ha ha'
    obtain ⟨g,hg⟩:=hat' a rfl
    rw [List.getElem?_take] at hg
    split at hg
    · exact hnew 1 a g (by rw [fJ];simp) hg
    · cases hg
  · intro j hj hjo hja
    refine hrest j hj ?_
    intro k x g hk e
    have h1:x ∈ π.map Prod.fst:=List.mem_map.2 ⟨(x,g),List.mem_of_getElem? hk,rfl⟩
    rw [hπ] at h1
    rcases List.mem_cons.1 h1 with h1 | h1
    · exact hjo (e.trans h1)
    · cases oa with
      | none=>simp at h1
      | some a =>
        simp at h1
        exact hja a rfl (e.trans h1)
end
end Go.Proofs.Yteblpjhkgdpchaa
namespace Go.Proofs.Yteblpjhkgdpchaa
open Go.AM
section
variable {c:Nat} {b:List UInt8} {mo:Int} {N t:Nat} {H:AM.Heap} {o lb nb rb:Nat} {la oa:Option Nat} {acc:List Int} {s:Is}
theorem YR {m cl:Nat} {L:List Int} {E:AM.Heap} {fr:AM.Frame} (hf:LeF cl L rb nb lb fr) (h:AgV c b mo (N:Nat) t E lb nb rb 0 la oa acc s):∃ code,((Try.f59.body).bind (aI [1,1,1,0,0,0,0,0])) = some code∧Run X (evT X) 59 m code fr E ⟨.normal,dA cl L rb nb lb ++ [(24,.bool (decide (acc.length < N) && (s.e == 0)))],E⟩:=by
  refine ⟨_,rfl,?_⟩
  obtain ⟨f1,f3,f5,f7,f8⟩:=hf
  obtain ⟨lv,τ,hτ,hb,hL⟩:=h.l
  obtain ⟨τ2,hτ2,hb2⟩:=h.n
  obtain ⟨τ3,hτ3,hb3⟩:=h.r
  obtain ⟨⟨vo,τ1,τr,a1,a2,h0,ho⟩,hne⟩:=h.d
  simp only [bF,bxO] at h0 hb hb2 hb3
  have hd:decide (acc.length < N) = decide ((acc.length:Int) < (N:Int)):=by
    by_cases h1:acc.length < N
    · rw [decide_eq_true h1,decide_eq_true (by omega)]
    · rw [decide_eq_false h1,decide_eq_false (by omega)]
  rw [hd]
  simp only [dA]
  cases la with
  | none =>
    obtain ⟨h1,τ4,hτ4,rfl⟩:=hL
    rw [h1]
    simp only [List.length_nil]
    by_cases hN:0 < N
    · by_cases he:s.e = 0
      · rw [he] at h0 ⊢
        (refine ⟨0,?_⟩;simp (maxSteps:=2000000) -implicitDefEqProofs [-getElem?_pos,go_sem,eqV,ah,f1,f3,f5,f7,f8,hb,hb2,hb3,h0,hN])
      · have heb:(s.e == 0) = false:=by simpa using he
        (refine ⟨0,?_⟩;simp (maxSteps:=2000000) -implicitDefEqProofs [-getElem?_pos,go_sem,eqV,ah,f1,f3,f5,f7,f8,hb,hb2,hb3,h0,hN,he,heb])
    · (refine ⟨0,?_⟩;simp (maxSteps:=2000000) -implicitDefEqProofs [-getElem?_pos,go_sem,eqV,ah,f1,f3,f5,f7,f8,hb,hb2,hb3,h0,hN])
  | some a =>
    obtain ⟨g,τ4,ob,hτ4,rfl,h3,h4⟩:=hL
    have hg:=h4.g
    generalize acc.length = q at *
    by_cases hN:(q:Int) < (N:Int)
    · by_cases he:s.e = 0
      · rw [he] at h0 ⊢
        (refine ⟨0,?_⟩;simp (maxSteps:=2000000) -implicitDefEqProofs [-getElem?_pos,go_sem,eqV,ah,f1,f3,f5,f7,f8,hb,hb2,hb3,h0,h3,hg,hN])
      · have heb:(s.e == 0) = false:=by simpa using he
        (refine ⟨0,?_⟩;simp (maxSteps:=2000000) -implicitDefEqProofs [-getElem?_pos,go_sem,eqV,ah,f1,f3,f5,f7,f8,hb,hb2,hb3,h0,h3,hg,hN,he,heb])
    · (refine ⟨0,?_⟩;simp (maxSteps:=2000000) -implicitDefEqProofs [-getElem?_pos,go_sem,eqV,ah,f1,f3,f5,f7,f8,hb,hb2,hb3,h0,h3,hg,hN])
def nlO:AM.Obj:=⟨.pi .i64 [],0,none,0,true,false,0⟩
theorem YS {b:List UInt8} {N:Nat} {acc:List Int} {j:Nat} {k k':Nat} {o o':List UInt8} {a:List Int} (h:CX b N acc j k o = .ok a k' o') (hk:k≤8 * b.length):k≤k':=((PD N acc j).up b 0 k o a k' o' h hk).1
theorem I8 {m cl F:Nat} {L:List Int} {E:AM.Heap} (h:IrV c b mo t E 0 oa s) (hs:fE b mo s) (hb:b.length≤100000) (he:s.e = 0) (hN:N≤400) (hF:8 * b.length < F) (hLl:L.length < 9223372036854775808):∃ code,Try.f59.body = some code ∧
    aj (rF fun fr E'=>∃ lv la' oa' acc' s',ay fr 6 = lv∧IrV c b mo t E' 0 oa' s'∧LsV t E' la' lv acc'∧(∀ a,oa = some a→oa' = some a)∧(∀ a,la' = some a→a ≠ 0∧∀ x,oa' = some x→a ≠ x)∧fO b mo (uj b L N F []) s s' acc') X (evT X) 59 m code [(0,.ptr 0 0 0 0),(1,.ro cl (.pi .i64 L) 2),(2,.int .i64 (N:Nat))] E:=by
  refine ⟨_,rfl,?_⟩
  have hlt:=h.lt
  apply aj.seq (fr':=[(1,.ro cl (.pi .i64 L) 2),(3,.ptr E.length 0 0 0),(5,.ptr (E.length + 1) 0 0 0)]) (H':=E ++ [some (bxO (.ptr 0 0 0 0) 0),some (bxO (.int .i64 (N:Nat)) 0),some nlO])
  · simp only [bxO,nlO]
    (refine ⟨0,?_⟩;simp (maxSteps:=2000000) -implicitDefEqProofs [-getElem?_pos,go_sem,eqV,ah,ak,rowOf,bM])
  apply aj.seq (fr':=[(1,.ro cl (.pi .i64 L) 2),(3,.ptr E.length 0 0 0),(5,.ptr (E.length + 1) 0 0 0),(7,.ptr (E.length + 3) 0 0 0)]) (H':=E ++ [some (bxO (.ptr 0 0 0 0) 0),some (bxO (.int .i64 (N:Nat)) 0),some nlO,some (bxO (.ro 0 .pn 0) 0)])
  · simp only [bxO,nlO]
    (refine ⟨0,?_⟩;simp (maxSteps:=2000000) -implicitDefEqProofs [-getElem?_pos,go_sem,eqV,ah])
  apply aj.seq (fr':=dA cl L E.length (E.length + 1) (E.length + 3)) (H':=E ++ [some (bxO (.ptr 0 0 0 0) 0),some (bxO (.int .i64 (N:Nat)) 0),some nlO,some (bxO (.ro 0 .pn 0) 0)])
  · simp only [dA]
    (refine ⟨0,?_⟩;simp (maxSteps:=2000000) -implicitDefEqProofs [-getElem?_pos,go_sem,eqV,ah,scalars,ak])
  have hV0:AgV c b mo (N:Nat) t (E ++ [some (bxO (.ptr 0 0 0 0) 0),some (bxO (.int .i64 (N:Nat)) 0),some nlO,some (bxO (.ro 0 .pn 0) 0)]) (E.length + 3) (E.length + 1) E.length 0 none oa [] s:=by
    refine ⟨⟨.ro 0 .pn 0,0,.inl rfl,by rw [List.getElem?_append_right (by omega),show E.length + 3 - E.length = 3 by omega];rfl,rfl,0,.inl rfl,rfl⟩,⟨0,.inl rfl,by rw [List.getElem?_append_right (by omega),show E.length + 1 - E.length = 1 by omega];rfl⟩,⟨0,.inl rfl,by rw [List.getElem?_append_right (by omega),Nat.sub_self];rfl⟩,h.cat,?_⟩
    have h0:=hlt.1
    cases oa with
    | none =>
      clear hlt
      generalize E.length = q at *
      simp;omega
    | some z =>
      have h1:=hlt.2 z rfl
      have h2:=h.ne z rfl
      clear hlt
      generalize E.length = q at *
      simp;omega
  generalize E ++ [some (bxO (.ptr 0 0 0 0) 0),some (bxO (.int .i64 (N:Nat)) 0),some nlO,some (bxO (.ro 0 .pn 0) 0)] = E4 at *
  generalize E.length + 3 = lb at *
  generalize E.length + 1 = nb at *
  generalize E.length = rb at *
  apply aj.sH (P:=fun fr E'=>∃ la' oa' acc' s',fr = dA cl L rb nb lb ++ [(24,.bool false)]∧AgV c b mo (N:Nat) t E' lb nb rb 0 la' oa' acc' s'∧(∀ a,oa = some a→oa' = some a)∧fO b mo (uj b L N F []) s s' acc')
  · refine aj.mono (Q:=Exits 0 fun fr E'=>∃ la' oa' acc' s',fr = dA cl L rb nb lb ++ [(24,.bool false)]∧AgV c b mo (N:Nat) t E' lb nb rb 0 la' oa' acc' s'∧(∀ a,oa = some a→oa' = some a)∧fO b mo (uj b L N F []) s s' acc') ?_ fun o h=>.inl h
    refine aj.kE (I:=fun q fr E'=>∃ la' oa' acc' s' f,q = (if s'.e = 0 then 8 * b.length - s'.k + 1 else 0)∧LeF cl L rb nb lb fr∧AgV c b mo (N:Nat) t E' lb nb rb 0 la' oa' acc' s'∧(∀ a,oa = some a→oa' = some a)∧acc'.length≤N + 1∧fE b mo s'∧(s'.e = 0→8 * b.length < f + s'.k)∧(∀ s2 a,fO b mo (uj b L N f acc') s' s2 a→fO b mo (uj b L N F []) s s2 a)) ?_ (k:=if s.e = 0 then 8 * b.length - s.k + 1 else 0) ⟨none,oa,[],s,F,rfl,LeF.of rfl,hV0,fun _ h=>h,by simp,hs,fun _=>by omega,fun _ _ h=>h⟩
    rintro q fr E' ⟨la',oa',acc',s',f,rfl,hfr,hV,hm,hlen,hs',hf,hC⟩
    have h3:=YR (m:=m) hfr hV
    by_cases hgo:acc'.length < N∧s'.e = 0
    · obtain ⟨f,rfl⟩:∃ f',f = f' + 1:=⟨f - 1,by have:=hs'.1;have:=hf hgo.2;omega⟩
      obtain ⟨E2,la2,oa2,wu,s2,v1,v2,v3,v4,fr2,v5,v6⟩:=WQ (m:=m) (cl:=cl) (L:=L) hV hs' hb hgo.2 (by omega) hgo.1 hLl
      have hup:s2.e = 0→s'.k < s2.k:=by
        intro he2
        obtain ⟨_,hok⟩:=v2.fine he2
        obtain ⟨j,k1,o1,e1,e2⟩:=iZ hok
        obtain ⟨u1,u2,_,_⟩:=Uu e1
        have u3:=((zq L).up b mo s'.k s'.o _ _ _ e1 hs'.1).2.1
        have:=YS e2 u3
        omega
      refine aj.of (o:=⟨.normal,fr2,E2⟩) ?_ (.inl ⟨rfl,_,?_,la2,oa2,wu,s2,f,rfl,v5,v1,fun a ha=>v4 a (hm a ha),v3,v2.1,?_,?_⟩)
      · rw [decide_eq_true hgo.1,hgo.2] at h3
        apply Run.seq (fr':=dA cl L rb nb lb ++ [(24,.bool true)]) (H':=E')
        · apply Run.seq (piece h3 _ rfl)
          refine ⟨0,?_⟩
          simp only [dA]
          simp (maxSteps:=2000000) -implicitDefEqProofs [-getElem?_pos,go_sem,eqV,ah]
        exact piece v6 _ rfl
      · rw [if_pos hgo.2]
        split
        · rename_i he2
          have:=hup he2
          have:=v2.1.1
          omega
        · omega
      · intro he2
        have:=hup he2
        have:=hf hgo.2
        omega
      · intro s3 a ha
        refine hC s3 a ?_
        unfold uj
        rw [if_neg (by omega)]
        rw [← EC]
        exact v2.bnd (f:=fun a2=>uj b L N f a2) ha
    · refine aj.of (o:=⟨.exit 0,dA cl L rb nb lb ++ [(24,.bool false)],E'⟩) ?_ (.inr ⟨by simp,rfl,la',oa',acc',s',rfl,hV,hm,hC _ _ ?_⟩)
      · have hd:(decide (acc'.length < N) && (s'.e == 0)) = false:=by
          by_cases h1:acc'.length < N
          · have:¬ s'.e = 0:=fun h=>hgo ⟨h1,h⟩
            simp [this]
          · simp [h1]
        rw [hd] at h3
        apply Run.bG
        · apply Run.seq (piece h3 _ rfl)
          refine ⟨0,?_⟩
          simp only [dA]
          simp (maxSteps:=2000000) -implicitDefEqProofs [-getElem?_pos,go_sem,eqV,ah]
        · simp
      · by_cases h1:s'.e = 0
        · have hge:N≤acc'.length:=by
            refine Classical.byContradiction fun h=>?_
            exact hgo ⟨by omega,h1⟩
          obtain ⟨f,rfl⟩:∃ f',f = f' + 1:=⟨f - 1,by have:=hs'.1;have:=hf h1;omega⟩
          refine ⟨hs',?_⟩
          rw [if_pos h1]
          unfold uj
          rw [if_pos hge]
          exact ⟨by rw [← h1],rfl⟩
        · exact fO.stop hs' h1
  · rintro fr E' ⟨la',oa',acc',s',rfl,hV,hm,hR⟩
    obtain ⟨n1,n2,n3,n4,n5,n6,n7,n8⟩:=hV.ne
    obtain ⟨lv,τ,hτ,hbx,hL⟩:=hV.l
    simp only [bxO] at hbx
    have hne:∀ a,la' = some a→a ≠ 0∧∀ x,oa' = some x→a ≠ x:=fun a ha=>⟨Ne.symm (n7 a ha).2.2.2.1,(n7 a ha).2.2.2.2⟩
    cases la' with
    | some a =>
      obtain ⟨g,τ4,ob,hτ4,rfl,q3,q4⟩:=hL
      refine aj.of (o:=⟨.ret,[(6,.sl a 0 acc'.length g)],E'⟩) ?_ ⟨rfl,_,some a,oa',acc',s',rfl,hV.d,⟨g,τ4,ob,hτ4,rfl,q3,q4⟩,hm,hne,hR⟩
      refine ⟨0,?_⟩
      simp only [dA]
      generalize acc'.length = M at *
      simp (maxSteps:=2000000) -implicitDefEqProofs [-getElem?_pos,go_sem,eqV,ah,hbx,ak]
    | none =>
      obtain ⟨hacc,τ4,hτ4,rfl⟩:=hL
      by_cases ht0:τ4 = 0
      · subst ht0
        have hat:(E' ++ [some nlO])[E'.length]? = some (some nlO):=by simp
        refine aj.of (o:=⟨.ret,[(6,.sl E'.length 0 0 0)],E' ++ [some nlO]⟩) ?_ ⟨rfl,_,some E'.length,oa',acc',s',rfl,hV.d.cat,⟨0,0,nlO,.inl rfl,by rw [hacc];rfl,hat,by rw [hacc];exact ⟨rfl,rfl,rfl,rfl,rfl⟩⟩,hm,?_,hR⟩
        · refine ⟨0,?_⟩
          simp only [dA,nlO]
          simp (maxSteps:=2000000) -implicitDefEqProofs [-getElem?_pos,go_sem,eqV,ah,hbx,ak,rowOf,bM]
        · intro a ha
          cases ha
          have:=hV.lt
          exact ⟨by omega,fun x hx=>by have:=this.2.2.2.2.2 x hx;omega⟩
      · refine aj.of (o:=⟨.ret,[(6,.ro 0 .pn τ4)],E'⟩) ?_ ⟨rfl,_,none,oa',acc',s',rfl,hV.d,⟨hacc,τ4,hτ4,rfl⟩,hm,(fun a ha=>by cases ha),hR⟩
        refine ⟨0,?_⟩
        simp only [dA]
        simp (maxSteps:=2000000) -implicitDefEqProofs [-getElem?_pos,go_sem,eqV,ah,hbx,ak,ht0]
end
end Go.Proofs.Yteblpjhkgdpchaa
namespace Go.Proofs.Yteblpjhkgdpchaa
open Go.AM
section
variable {c:Nat} {b:List UInt8} {mo:Int} {N t:Nat} {H:AM.Heap} {o:Nat} {oa:Option Nat} {s:Is}
theorem N9 {F:Nat} {L:List Int} {a:AV} (h:IrV c b mo t H o oa s) (hs:fE b mo s) (hb:b.length≤100000) (he:s.e = 0) (hN:N≤400) (hF:8 * b.length < F) (hLl:L.length < 9223372036854775808) (ha:eG H a = some (.pi .i64 L)) (hd:∀ x ∈ slO a,x ≠ o∧∀ y,oa = some y→x ≠ y) :
    ∃ H' oa' s' acc v la,evT X 59 [.ptr o 0 0 0,a,.int .i64 (N:Nat)] H = some (v,H')∧IrV c b mo t H' o oa' s'∧LsV t H' la v acc∧fO b mo (uj b L N F []) s s' acc∧Kpt H H' o oa oa'∧(∀ x,la = some x→H.length≤x∧x ≠ o∧∀ y,oa' = some y→x ≠ y):=by
  obtain ⟨code,hc⟩:∃ code,Try.f59.body = some code:=⟨_,rfl⟩
  obtain ⟨H',oa',s',w0,ex,ps,τf,hE,hτ,hV,hR,hnew,hnd,⟨acc,hrun,hw⟩,hk⟩:=AU (f:=59) (n:=4) (xs:=[a,.int .i64 (N:Nat)]) (ys:=[.ro (tY H a) (.pi .i64 L) 2,.int .i64 (N:Nat)]) (Q:=fun s' w0 ps=>∃ acc,fO b mo (uj b L N F []) s s' acc∧((ps = [.pi .i64 acc]∧w0 = .sl 0 0 acc.length 0)∨(ps = []∧acc = []∧∃ τ,w0 = .ro 0 .pn τ)))
    Try.func59 hc rfl h (fun π K hπ=>fD.TV rfl ha rfl (by
      rw [hπ]
      refine gZ.2 ?_
      intro x hx hx2
      obtain ⟨h1,h2⟩:=hd x hx
      rcases List.mem_cons.1 hx2 with h3 | h3
      · exact h1 h3
      · exact h2 x (by simpa using h3) rfl) (fD.flat rfl rfl fD.nil)) rfl rfl (by simp [dM]) (by
      intro m E oa1 _ _ _ hE
      obtain ⟨oN,hc2,ht⟩:=I8 (m:=m) (cl:=tY H a) (F:=F) (L:=L) (N:=N) hE hs hb he hN hF hLl
      refine ⟨oN,hc2,?_⟩
      rw [aaz]
      refine ht.mono ?_
      rintro out ⟨ho1,lv,la',oa',acc',s',q1,q2,q3,q4,q5,q6⟩
      refine ⟨.inr ho1,?_⟩
      cases la' with
      | some x =>
        obtain ⟨g,τ4,ob,hτ4,rfl,p3,p4⟩:=q3
        obtain ⟨u1,u2⟩:=q5 x rfl
        refine ⟨s',oa',[.sl x 0 acc'.length g],[(x,g)],[.pi .i64 acc'],.sl 0 0 acc'.length 0,?_,q2,q4,⟨⟨τ4,ob,hτ4,p3,p4⟩,trivial⟩,?_,?_,by simp [ids],by simp [ids],by simp [ids],by simp [tags],by simp [aO,ren,eu],acc',q6,.inl ⟨rfl,rfl⟩⟩
        · show aQ X out.fr out.H [.tmp 6] = _
          simp [aQ,q1]
        · intro p hp
          simp at hp
          subst hp
          exact ⟨rfl,rfl⟩
        · have hne:=q2.ne
          cases oa' with
          | none=>simp;omega
          | some y =>
            have h1:=hne y rfl
            have h2:=u2 y rfl
            simp;omega
      | none =>
        obtain ⟨rfl,τ4,hτ4,rfl⟩:=q3
        refine ⟨s',oa',[.ro 0 .pn τ4],[],[],.ro 0 .pn τ4,?_,q2,q4,trivial,by simp,?_,by simp [ids],by simp [ids],by simp,by simp [tags];exact hτ4,by simp [aO,ren],[],q6,.inr ⟨rfl,rfl,τ4,rfl⟩⟩
        · show aQ X out.fr out.H [.tmp 6] = _
          simp [aQ,q1]
        · have hne:=q2.ne
          cases oa' with
          | none=>simp
          | some y =>
            have h1:=hne y rfl
            simp;omega)
  rcases hw with ⟨rfl,rfl⟩ | ⟨rfl,rfl,τ,rfl⟩
  · match ex,hR with
    | [(x,g)],hR =>
      obtain ⟨⟨τ4,ob,h4,h5,h6⟩,_⟩:=hR
      refine ⟨H',oa',s',acc,.sl x 0 acc.length g,some x,by simpa [ren,eu] using hE,hV,⟨g,τ4,ob,h4,rfl,h5,h6⟩,hrun,hk,?_⟩
      intro y hy
      cases hy
      refine ⟨hnew (x,g) (List.mem_singleton.2 rfl),?_,?_⟩
      · intro e
        subst e
        simp at hnd
      · intro y hy e
        subst hy e
        simp at hnd
  · match ex,hR with
    | [],_ =>
      exact ⟨H',oa',s',[],.ro 0 .pn (τf τ),none,by simpa [ren] using hE,hV,⟨rfl,_,hτ τ (by simp [tags]),rfl⟩,hrun,hk,fun x h=>by cases h⟩
end
end Go.Proofs.Yteblpjhkgdpchaa
namespace Go.Proofs.Yteblpjhkgdpchaa
open Go.AM
def pF:List Int→Nat
  | []=>0
  | x :: r=>(if 0 < x then 1 else 0) + pF r
def nP:List Int→Int
  | []=>0
  | x :: r=>(if 0 < x then x else 0) + nP r
theorem KY:∀ l,pF l = (l.filter (0 < ·)).length
  | []=>rfl
  | x :: r=>by
    unfold pF
    rw [KY r]
    by_cases h:0 < x
    · simp [h];omega
    · simp [h]
theorem zH:∀ l:List Int,(pF l:Int)≤nP l
  | []=>by simp [pF,nP]
  | x :: r=>by
    have:=zH r
    unfold pF nP
    split <;> omega
theorem Qb:∀ l:List Int,(∀ x ∈ l,x≤15)→nP l≤15 * l.length
  | [],_=>by simp [nP]
  | x :: r,h=>by
    have h1:=Qb r fun y hy=>h y (List.mem_cons_of_mem _ hy)
    have h2:=h x (List.mem_cons_self ..)
    unfold nP
    simp only [List.length_cons]
    split <;> omega
theorem Qc:∀ l,FZ l = (decide (pF l = 1) && decide (nP l = 1))
  | []=>rfl
  | x :: r=>by
    have hp:=zH r
    have hl:=KY r
    have ih:=Qc r
    unfold FZ at ih ⊢
    unfold pF nP
    by_cases h:0 < x
    · rw [List.filter_cons_of_pos (by simpa using h),if_pos h,if_pos h]
      by_cases h1:r.filter (0 < ·) = []
      · rw [h1] at hl ⊢
        simp only [List.length_nil] at hl
        have hs:nP r = 0:=by
          have:∀ l:List Int,l.filter (0 < ·) = []→nP l = 0:=by
            intro l
            induction l with
            | nil=>intro _;rfl
            | cons y t iht =>
              intro hf
              by_cases hy:0 < y
              · rw [List.filter_cons_of_pos (by simpa using hy)] at hf;cases hf
              · rw [List.filter_cons_of_neg (by simpa using hy)] at hf
                unfold nP
                rw [if_neg hy,iht hf];rfl
          exact this r h1
        rw [hl,hs]
        by_cases hx:x = 1
        · subst hx;rfl
        · have e1:([x] == [1]) = false:=by simpa using hx
          have e2:decide (x + 0 = 1) = false:=by simpa using hx
          rw [e1,e2];simp
      · have hne:(x :: r.filter (0 < ·) == [1]) = false:=by
          simp
          intro _
          simpa using h1
        have hc:¬ 1 + pF r = 1:=by
          rw [hl]
          intro hz
          exact h1 (List.eq_nil_of_length_eq_zero (by omega))
        rw [hne,decide_eq_false hc];rfl
    · rw [List.filter_cons_of_neg (by simpa using h),if_neg h,if_neg h,ih]
      simp
section
variable (cc:Nat) (l:List Int)
def KZ (i:Nat):AM.Frame:=[(3,.int .i64 (pF (l.take i):Nat)),(4,.int .i64 (nP (l.take i))),(7,.ro cc (.pi .i64 l) 1),(8,.int .i64 (l.length:Nat)),(9,.int .i64 (i:Nat))]
theorem GX:∀ (l:List Int) (x:Int),pF (l ++ [x]) = pF l + (if 0 < x then 1 else 0)
  | [],x=>by simp [pF]
  | y :: r,x=>by rw [List.cons_append,pF,pF,GX r x];omega
theorem GY:∀ (l:List Int) (x:Int),nP (l ++ [x]) = nP l + (if 0 < x then x else 0)
  | [],x=>by simp [nP]
  | y :: r,x=>by rw [List.cons_append,nP,nP,GY r x];omega
theorem RJ (hl:l.length≤320) (hf:fine l = true):∃ code,Try.f60.body = some code ∧
    aj (rF fun fr H=>fr = [(2,.bool (FZ l))]∧H = []) X (evT X) 60 0 code [(0,.ro cc (.pi .i64 l) 1)] []:=by
  refine ⟨_,rfl,?_⟩
  apply aj.seq
  · (refine ⟨0,?_⟩;conv=>lhs;simp (maxSteps:=2000000) -implicitDefEqProofs [-getElem?_pos,go_sem,eqV,ah,ak])
  apply aj.seq
  · (refine ⟨0,?_⟩;conv=>lhs;simp (maxSteps:=2000000) -implicitDefEqProofs [-getElem?_pos,go_sem,eqV,ah,ak])
  apply aj.assoc
  apply aj.seq (fr':=KZ cc l 0) (H':=[])
  · simp only [KZ,List.take_zero,pF,nP]
    (refine ⟨0,?_⟩;simp (maxSteps:=2000000) -implicitDefEqProofs [-getElem?_pos,go_sem,eqV,ah])
  apply aj.sH (P:=fun fr H=>fr = KZ cc l l.length ++ [(10,.bool false)]∧H = [])
  · refine aj.loop (σ:=Nat) (fun i=>i≤l.length) (fun i=>KZ cc l i) (fun _=>[]) (fun i=>l.length - i) ?_ 0 (by omega)
    intro i hi
    by_cases he:i = l.length
    · right
      subst he
      refine ⟨⟨.exit 0,KZ cc l l.length ++ [(10,.bool false)],[]⟩,.inl ⟨rfl,rfl,rfl⟩,by simp,?_⟩
      simp only [KZ]
      generalize pF (l.take l.length) = p
      generalize nP (l.take l.length) = q
      (refine ⟨0,?_⟩;simp (maxSteps:=2000000) -implicitDefEqProofs [-getElem?_pos,go_sem,eqV,ah])
    · left
      have hlt:i < l.length:=by omega
      have lI:(i:Int) < (l.length:Int):=by omega
      obtain ⟨x,hx⟩:∃ x,l[i]? = some x:=⟨l[i],List.getElem?_eq_getElem hlt⟩
      have hxm:x ∈ l:=List.mem_of_getElem? hx
      have hxr:0≤x∧x≤15:=by
        have:=List.all_eq_true.1 hf x hxm
        simpa using this
      have htk:l.take (i + 1) = l.take i ++ [x]:=by rw [List.take_add_one,hx];rfl
      have hc1:=GX (l.take i) x
      have hs1:=GY (l.take i) x
      have hle:=Qb (l.take i) (fun y hy=>by
        have:=List.all_eq_true.1 hf y (List.mem_of_mem_take hy)
        simp at this;exact this.2)
      have hps:=zH (l.take i)
      have hll:(l.take i).length≤320:=by rw [List.length_take];omega
      have w1:IntKind.i64.wrap ((i:Int) + 1) = ((i + 1:Nat):Int):=by rw [wrap_i64 (by omega) (by omega)];omega
      refine ⟨i + 1,by omega,?_,by omega⟩
      unfold KZ
      rw [htk,hc1,hs1]
      have hcb:pF (l.take i)≤5000:=by omega
      have w2:IntKind.i64.wrap ((pF (l.take i):Int) + 1) = ((pF (l.take i) + 1:Nat):Int):=by rw [wrap_i64 (by omega) (by omega)];omega
      have w3:IntKind.i64.wrap (nP (l.take i) + x) = nP (l.take i) + x:=wrap_i64 (by omega) (by omega)
      generalize pF (l.take i) = p at *
      generalize nP (l.take i) = q at *
      by_cases h0:0 < x
      · rw [if_pos h0,if_pos h0]
        generalize p + 1 = p1 at *
        (refine ⟨0,?_⟩;simp (maxSteps:=2000000) -implicitDefEqProofs [-getElem?_pos,go_sem,eqV,ah,lI,hlt,hx,h0,w1,w2,w3,ak])
      · rw [if_neg h0,if_neg h0,Nat.add_zero,Int.add_zero]
        (refine ⟨0,?_⟩;simp (maxSteps:=2000000) -implicitDefEqProofs [-getElem?_pos,go_sem,eqV,ah,lI,hlt,hx,h0,w1,ak])
  · rintro fr H ⟨rfl,rfl⟩
    refine aj.of (o:=⟨.ret,[(2,.bool (FZ l))],[]⟩) ?_ ⟨rfl,rfl,rfl⟩
    rw [Qc]
    simp only [KZ,List.take_length]
    have hps:=zH l
    by_cases h1:pF l = 1
    · rw [decide_eq_true h1,Bool.true_and]
      by_cases h2:nP l = 1
      · rw [h1,h2]
        (refine ⟨0,?_⟩;simp (maxSteps:=2000000) -implicitDefEqProofs [-getElem?_pos,go_sem,eqV,ah,ak])
      · rw [h1,decide_eq_false h2]
        have h2b:(nP l == 1) = false:=by simpa using h2
        generalize nP l = q at *
        (refine ⟨0,?_⟩;simp (maxSteps:=2000000) -implicitDefEqProofs [-getElem?_pos,go_sem,eqV,ah,h2,h2b,ak])
    · rw [decide_eq_false h1,Bool.false_and]
      have h1b:((pF l:Int) == 1) = false:=by simp;omega
      have h1c:¬ ((pF l:Int) = 1):=by omega
      generalize pF l = p at *
      generalize nP l = q at *
      (refine ⟨0,?_⟩;simp (maxSteps:=2000000) -implicitDefEqProofs [-getElem?_pos,go_sem,eqV,ah,h1b,h1c,ak])
def I9 (i:Nat):AM.Frame:=[(5,.ro cc (.pi .i64 l) 1),(6,.int .i64 (l.length:Nat)),(7,.int .i64 (i:Nat))]
theorem RN (hl:l.length≤320):∃ code,Try.f61.body = some code ∧
    aj (rF fun fr H=>fr = [(2,.bool (F5 l))]∧H = []) X (evT X) 61 0 code [(0,.ro cc (.pi .i64 l) 1)] []:=by
  refine ⟨_,rfl,?_⟩
  apply aj.seq
  · (refine ⟨0,?_⟩;conv=>lhs;simp (maxSteps:=2000000) -implicitDefEqProofs [-getElem?_pos,go_sem,eqV,ah,ak])
  apply aj.assoc
  apply aj.seq (fr':=I9 cc l 0) (H':=[])
  · (refine ⟨0,?_⟩;simp (maxSteps:=2000000) -implicitDefEqProofs [-getElem?_pos,go_sem,eqV,ah,I9])
  apply aj.sH (P:=fun fr H=>F5 l = true∧fr = I9 cc l l.length ++ [(8,.bool false)]∧H = [])
  · refine aj.loop (σ:=Nat) (fun i=>i≤l.length∧(l.take i).filter (0 < ·) = []) (fun i=>I9 cc l i) (fun _=>[]) (fun i=>l.length - i) ?_ 0 ⟨by omega,rfl⟩
    rintro i ⟨hi,hfi⟩
    by_cases he:i = l.length
    · right
      subst he
      refine ⟨⟨.exit 0,I9 cc l l.length ++ [(8,.bool false)],[]⟩,.inl ⟨rfl,?_,rfl,rfl⟩,by simp,?_⟩
      · rw [List.take_length] at hfi
        unfold F5;rw [hfi];rfl
      simp only [I9]
      (refine ⟨0,?_⟩;simp (maxSteps:=2000000) -implicitDefEqProofs [-getElem?_pos,go_sem,eqV,ah])
    · have hlt:i < l.length:=by omega
      have lI:(i:Int) < (l.length:Int):=by omega
      obtain ⟨x,hx⟩:∃ x,l[i]? = some x:=⟨l[i],List.getElem?_eq_getElem hlt⟩
      have w1:IntKind.i64.wrap ((i:Int) + 1) = ((i + 1:Nat):Int):=by rw [wrap_i64 (by omega) (by omega)];omega
      by_cases h0:0 < x
      · right
        have hn:F5 l = false:=by
          unfold F5
          have:x ∈ l.filter (0 < ·):=List.mem_filter.2 ⟨List.mem_of_getElem? hx,by simpa using h0⟩
          cases hq:l.filter (0 < ·) with
          | nil=>rw [hq] at this;cases this
          | cons y r=>rfl
        refine ⟨⟨.ret,[(2,.bool false)],[]⟩,.inr ⟨rfl,rfl,by rw [hn],rfl⟩,by simp,?_⟩
        simp only [I9]
        (refine ⟨0,?_⟩;simp (maxSteps:=2000000) -implicitDefEqProofs [-getElem?_pos,go_sem,eqV,ah,lI,hlt,hx,h0,ak])
      · left
        refine ⟨i + 1,⟨by omega,?_⟩,?_,by omega⟩
        · rw [List.take_add_one,hx,List.filter_append,hfi]
          simp;omega
        simp only [I9]
        (refine ⟨0,?_⟩;simp (maxSteps:=2000000) -implicitDefEqProofs [-getElem?_pos,go_sem,eqV,ah,lI,hlt,hx,h0,w1,ak])
  · rintro fr H ⟨hn,rfl,rfl⟩
    refine aj.of (o:=⟨.ret,[(2,.bool (F5 l))],[]⟩) ?_ ⟨rfl,rfl,rfl⟩
    rw [hn]
    simp only [I9]
    (refine ⟨0,?_⟩;simp (maxSteps:=2000000) -implicitDefEqProofs [-getElem?_pos,go_sem,eqV,ah,ak])
end
theorem Uz {H:AM.Heap} {a:AV} {l:List Int} (h:eG H a = some (.pi .i64 l)) (hl:l.length≤320) (hf:fine l = true):evT X 60 [a] H = some (.bool (FZ l),H):=by
  obtain ⟨cc,x,hx⟩:=iM (C:=X) (f:=60) (i:=0) rfl h (fV 1)
  obtain ⟨code,hb,⟨ex,fr,H1⟩,⟨he,hfr,hH⟩,hr⟩:=RJ cc l hl hf
  simp only at he hfr hH
  subst he;subst hfr;subst hH
  exact fH (Ev1.plain (l:=[.bool (FZ l)]) (dL X) Try.func60 hb hx rfl (by simp [dM]) hr (.inr rfl) rfl rfl rfl)
theorem YT {H:AM.Heap} {a:AV} {l:List Int} (h:eG H a = some (.pi .i64 l)) (hl:l.length≤320):evT X 61 [a] H = some (.bool (F5 l),H):=by
  obtain ⟨cc,x,hx⟩:=iM (C:=X) (f:=61) (i:=0) rfl h (fV 1)
  obtain ⟨code,hb,⟨ex,fr,H1⟩,⟨he,hfr,hH⟩,hr⟩:=RN cc l hl
  simp only at he hfr hH
  subst he;subst hfr;subst hH
  exact fH (Ev1.plain (l:=[.bool (F5 l)]) (dL X) Try.func61 hb hx rfl (by simp [dM]) hr (.inr rfl) rfl rfl rfl)
def Bc (l:List Int):AM.Obj:=⟨.pi .i64 l,0,.none,1,true,false,0⟩
def UA:Row1:=⟨30,[],.tup [.sl 0 0 288 0,.sl 1 0 32 0],[some (Bc zo),some (Bc yx)]⟩
theorem UC:kC X (UA :: []):=kC.cons (DV kC.nil) kC.nil (n:=400) (by kernel_rfl)
theorem WR (H:AM.Heap):evT X 30 [] H = some (.tup [.sl H.length 0 288 0,.sl (H.length + 1) 0 32 0],H ++ [some (Bc zo),some (Bc yx)]):=by
  have:=fH (Ev1.frame (UC UA (List.mem_singleton.2 rfl)).1 rfl H)
  simpa [UA,cu,kP,ren,aT,vN,Bc,bg,Nat.add_comm] using this
end Go.Proofs.Yteblpjhkgdpchaa
