/- IC to WO: texts of this claim, one behind the other; what each shows stands at its head. -/
import Derived.Test.YteblpjhkgdpchaaAm4
import Derived.Test.YteblpjhkgdpchaaMg5
set_option linter.unusedSimpArgs false
set_option linter.unusedVariables false
set_option maxRecDepth 100000
set_option maxHeartbeats 8000000
namespace Go.Proofs.Yteblpjhkgdpchaa
open Go.AM
structure Is where
  k:Nat
  o:List UInt8
  e:Int
def bF (c:Nat) (b:List UInt8) (mo:Int) (s:Is) (vo:AV) (τ1 τ:Nat):AM.Obj:=⟨.pc [.ro c (.pb b) τ1,.int .i64 (s.k:Nat),vo,.int .i64 mo,.int .i64 s.e],0,some 5,1,false,true,τ⟩
def OuV (t:Nat) (H:AM.Heap) (oa:Option Nat) (vo:AV) (l:List UInt8):Prop:=match oa with
  | none=>l = []∧∃ τ,(τ = 0∨τ = t)∧vo = .ro 0 .pn τ
  | some a=>∃ g τ ob,(τ = 0∨τ = t)∧vo = .sl a 0 l.length g∧H[a]? = some (some ob)∧RwT (.pb l) g τ ob
structure IrV (c:Nat) (b:List UInt8) (mo:Int) (t:Nat) (H:AM.Heap) (o:Nat) (oa:Option Nat) (s:Is):Prop where
  bx:∃ vo τ1 τ,(τ1 = 0∨τ1 = t)∧(τ = 0∨τ = t)∧H[o]? = some (some (bF c b mo s vo τ1 τ))∧OuV t H oa vo s.o
  ne:∀ a,oa = some a→a ≠ o
def irS (c:Nat) (b:List UInt8) (mo:Int) (s:Is):Bool→List AM.Obj
  | false=>[bF c b mo s (.ro 0 .pn 0) 0 0]
  | true=>[bF c b mo s (.sl 1 0 s.o.length 0) 0 0,⟨.pb s.o,0,none,0,true,false,0⟩]
section
variable {c:Nat} {b:List UInt8} {mo:Int} {t:Nat} {H:AM.Heap} {o:Nat} {oa:Option Nat} {s:Is}
theorem A8 (c:Nat) (b:List UInt8) (mo:Int) (s:Is) (r:Bool):OkS (irS c b mo s r):=by
  intro k ob0 hk x hx
  cases r
  · cases k with
    | zero =>
      obtain rfl:=Option.some.inj hk
      simp [bF,ids,aB] at hx
    | succ k=>simp [irS] at hk
  · match k,hk with
    | 0,hk =>
      obtain rfl:=Option.some.inj hk
      simp [bF,ids,aB] at hx
      subst hx
      simp [irS]
    | 1,hk =>
      obtain rfl:=Option.some.inj hk
      simp [ids] at hx
    | k + 2,hk=>simp [irS] at hk
theorem fJ (c:Nat) (b:List UInt8) (mo:Int) (s:Is) (r:Bool):(irS c b mo s r).length = if r then 2 else 1:=by cases r <;> rfl
theorem Ba (c:Nat) (b:List UInt8) (mo:Int) (s:Is) (r:Bool):reach ((irS c b mo s r).map some) aA [0] [] = List.range (irS c b mo s r).length:=by
  cases r
  · exact pX rfl (by simp [bF,ids,aB])
  · show reach _ (99996 + 1 + 1 + 1 + 1) [0] [] = [0,1]
    simp [irS,bF,reach,ids,aB]
theorem IrV.img (h:IrV c b mo t H o oa s):∃ π,Img t H π (irS c b mo s oa.isSome)∧π.map Prod.fst = o :: oa.toList∧π[0]? = some (o,0):=by
  obtain ⟨⟨vo,τ1,τ,hτ1,hτ,h0,ho⟩,hne⟩:=h
  cases oa with
  | none =>
    obtain ⟨hl,τ2,hτ2,rfl⟩:=ho
    refine ⟨[(o,0)],⟨rfl,?_,?_⟩,rfl,rfl⟩
    · intro j k oj gj ok gk h1 h2 _
      have:=eP h1;have:=eP h2
      simp at *;omega
    · intro k ob0 hk
      cases k with
      | succ k=>simp [irS] at hk
      | zero =>
        obtain rfl:=Option.some.inj hk
        refine ⟨o,0,_,rfl,h0,⟨?_,rfl,rfl,rfl,fun _=>⟨rfl,rfl,rfl⟩,hτ,?_⟩⟩
        · simp [bF,ren,bg,tz]
        · intro k hk
          simp [bF,tags,aU] at hk
          rcases hk with rfl | rfl
          · exact hτ1
          · exact hτ2
  | some a =>
    obtain ⟨g,τ2,ob,hτ2,rfl,ha,hw⟩:=ho
    have hao:=hne a rfl
    refine ⟨[(o,0),(a,g)],⟨rfl,?_,?_⟩,rfl,rfl⟩
    · intro j k oj gj ok gk h1 h2 e
      match j,k,h1,h2 with
      | 0,0,_,_=>rfl
      | 1,1,_,_=>rfl
      | 0,1,h1,h2=>simp at h1 h2;omega
      | 1,0,h1,h2=>simp at h1 h2;omega
      | j + 2,_,h1,_=>simp at h1
      | 0,k + 2,_,h2=>simp at h2
      | 1,k + 2,_,h2=>simp at h2
    · intro k ob0 hk
      match k,hk with
      | 0,hk =>
        obtain rfl:=Option.some.inj hk
        refine ⟨o,0,_,rfl,h0,⟨?_,rfl,rfl,rfl,fun _=>⟨rfl,rfl,rfl⟩,hτ,?_⟩⟩
        · simp [bF,ren,bg,tz,eu,idN]
        · intro k hk
          simp [bF,tags,aU] at hk
          rw [hk];exact hτ1
      | 1,hk =>
        obtain rfl:=Option.some.inj hk
        refine ⟨a,g,ob,rfl,ha,⟨by rw [hw.p];rfl,hw.g,hw.row,hw.ids,(fun h=>by cases h),by rw [hw.tg];exact hτ2,?_⟩⟩
        intro k hk
        rw [hw.p] at hk
        simp [tags] at hk
      | k + 2,hk=>simp [irS] at hk
theorem IrV.nM {π:List (Nat × Nat)} {r:Bool} (h:Img t H π (irS c b mo s r)) (h0:π[0]? = some (o,0)) (hr:r = false→s.o = []):∃ oa,IrV c b mo t H o oa s∧π.map Prod.fst = o :: oa.toList∧oa.isSome = r∧(∀ a,oa = some a→∃ g,π[1]? = some (a,g)):=by
  obtain ⟨o',g',ob,q1,q2,q3⟩:=h.ob 0 _ (by cases r <;> rfl:(irS c b mo s r)[0]? = some (bF c b mo s (if r then .sl 1 0 s.o.length 0 else .ro 0 .pn 0) 0 0))
  rw [h0] at q1
  simp only [Option.some.injEq,Prod.mk.injEq] at q1
  obtain ⟨rfl,rfl⟩:=q1
  obtain ⟨b1,b2,_⟩:=q3.bx rfl
  obtain ⟨p,g,cap,z,row,idb,tg⟩:=ob
  have r2:=q3.gen;have r3:=q3.row;have r4:=q3.ids;have r5:=q3.tg;have r6:=q3.tp;have r1:=q3.p
  simp only [bF] at r1 r2 r3 r4 r5 r6 b1 b2
  subst r2 r3 r4 b1 b2
  simp only [ren,bg] at r1
  obtain ⟨l1,rfl,k1⟩:=yL r1
  obtain ⟨x1,l2,rfl,e1,k2⟩:=fM k1
  obtain ⟨x2,l3,rfl,e2,k3⟩:=fM k2
  obtain ⟨x3,l4,rfl,e3,k4⟩:=fM k3
  obtain ⟨x4,l5,rfl,e4,k5⟩:=fM k4
  obtain ⟨x5,l6,rfl,e5,k6⟩:=fM k5
  obtain rfl:=pV k6
  obtain ⟨τ1,rfl⟩:=yM e1
  obtain rfl:=rC e2
  obtain rfl:=rC e4
  obtain rfl:=rC e5
  have hτ1:τ1 = 0∨τ1 = t:=r6 τ1 (by simp [tags,aU])
  cases r with
  | false =>
    simp only [Bool.false_eq_true,if_false,ren] at e3
    obtain ⟨τ2,rfl⟩:=yM e3
    have hτ2:τ2 = 0∨τ2 = t:=r6 τ2 (by simp [tags,aU])
    have hl:=h.len
    refine ⟨none,⟨⟨_,τ1,tg,hτ1,r5,q2,hr rfl,τ2,hτ2,rfl⟩,fun a h=>by cases h⟩,?_,rfl,fun a h=>by cases h⟩
    match π,hl,h0 with
    | [x],_,h0=>simp at h0;subst h0;rfl
  | true =>
    obtain ⟨a,g,ob,p1,p2,p3⟩:=h.ob 1 _ rfl
    simp only [if_true,ren,eu,p1] at e3
    obtain rfl:=EU e3
    have hl:=h.len
    have hne:a ≠ o:=fun e=>by have:=h.nd 1 0 a g o 0 p1 h0 e;omega
    have ep:=p3.p
    simp only [ren] at ep
    refine ⟨some a,⟨⟨_,τ1,tg,hτ1,r5,q2,g,ob.tg,ob,p3.tg,rfl,p2,Jr ep,p3.gen,p3.row,p3.ids,rfl⟩,fun a' h=>by cases h;exact hne⟩,?_,rfl,fun a' h=>by cases h;exact ⟨g,p1⟩⟩
    match π,hl,h0,p1 with
    | [x,y],_,h0,p1=>simp at h0 p1;subst h0 p1;rfl
theorem QC {f n:Nat} {fn:Func} {code:Code} {xs ys:List AV} {Q:Is→List AV→Bool→Prop} (hF:X.P.funcs[f]? = some fn) (hb:fn.body = some code) (hrw:X.rw f 0 = false) (h:IrV c b mo t H o oa s)
    (hA:∀ π K,π.map Prod.fst = o :: oa.toList→fD X f H π K 1 xs ys) (hi:aB ys = []) (hn:xs.length + 2 = n) (hng:n < dM)
    (run:∀ m E,IrV c b mo n E 0 (oa.map fun _=>1) s→aj (jZ fun fr E'=>∃ s' oa' l,aQ X fr E' fn.results.toList = some l∧aB l = []∧aU l = []∧fG l = true∧IrV c b mo n E' 0 oa' s'∧(oa ≠ none→oa' = some 1)∧Q s' l oa'.isSome)
      X (evT X) f m code (numbered 0 (coerce X (.ptr 0 0 0 0 :: ys) (aF X f))) E) :
    ∃ H' oa' s' l,evT X f (.ptr o 0 0 0 :: xs) H = some (aO l,H')∧IrV c b mo t H' o oa' s'∧Q s' l oa'.isSome∧H.length≤H'.length∧(∀ a,oa = some a→oa' = some a)∧(∀ a,oa = none→oa' = some a→H.length≤a) ∧
      (∀ j,j < H.length→j ≠ o→(∀ a,oa = some a→j ≠ a)→H'[j]? = H[j]?):=by
  obtain ⟨π,hI,hπ,hπ0⟩:=h.img
  have hK:0 < (irS c b mo s oa.isSome).length:=by rw [fJ];split <;> omega
  have hA':=(hA π (irS c b mo s oa.isSome).length hπ)
  have hA2:fD X f H π (irS c b mo s oa.isSome).length 0 (.ptr o 0 0 0 :: xs) (.ptr 0 0 0 0 :: ys):=fD.ptr hI hrw hπ0 hK hA'
  have hoa:oa.isSome = false→s.o = []:=by
    intro h1
    cases oa with
    | some a=>cases h1
    | none=>obtain ⟨⟨vo,τ1,τ,_,_,_,ho⟩,_⟩:=h;exact ho.1
  obtain ⟨π'',S',v0,H',τf,hE,hτf,hI',hok',hid,⟨s',l,r',hS',hv0,hr',hQ,hil⟩,hlen,hfix,hnew,hrest⟩:=Ev1.img (C:=X) (T:=evT X) (f:=f) (H:=H) (n:=n) (ys:=.ptr 0 0 0 0 :: ys) (Q:=fun S' v0=>∃ s' l r',S' = irS c b mo s' r'∧v0 = aO l∧(r' = false→s'.o = [])∧Q s' l r'∧aB l = []∧aU l = []∧fG l = true∧(oa.isSome = true→r' = true)) (dL X) hF hb hI (A8 c b mo s _) hA2
    (by rw [show aB (AV.ptr 0 0 0 0 :: ys) = [0] by simp [aB,ids,hi]];exact Ba c b mo s _) (by simp;omega) hng (by
      intro E hEl hEI
      obtain ⟨oa1,hV,hπ1,hs1,ED⟩:=IrV.nM hEI (by rw [qw,if_pos hK]) hoa
      have YW:oa1 = oa.map fun _=>1:=by
        cases oa with
        | none=>cases oa1 with
          | none=>rfl
          | some a=>cases hs1
        | some a=>cases oa1 with
          | none=>cases hs1
          | some a1 =>
            obtain ⟨g,hg⟩:=ED a1 rfl
            rw [qw] at hg
            simp [fJ] at hg
            rw [Option.map_some,← hg.1]
      rw [YW] at hV
      obtain ⟨out,hout,hrun⟩:=run (irS c b mo s oa.isSome).length E hV
      refine ⟨out,⟨hout.1,?_⟩,hrun⟩
      obtain ⟨s',oa',l,hr,hil,htl,hnt,hV',ho',hQ⟩:=hout.2
      obtain ⟨π',hI',hπ',EF⟩:=hV'.img
      have Uw:oa'.isSome = false→s'.o = []:=by
        intro h1
        cases oa' with
        | some a=>cases h1
        | none=>obtain ⟨⟨vo,τ1,τ,_,_,_,ho⟩,_⟩:=hV';exact ho.1
      refine Leaves.plain hr hil htl hnt hI' (A8 c b mo s' _) ?_ ?_ ?_ ?_ ⟨s',l,_,rfl,rfl,Uw,hQ,hil,htl,hnt,?_⟩
      · rw [fJ,fJ]
        cases oa with
        | none=>cases oa'.isSome <;> simp
        | some a=>rw [ho' (by simp)];simp
      · intro k hk
        cases oa with
        | none =>
          rw [fJ] at hk
          simp at hk
          subst hk
          exact ⟨0,EF⟩
        | some a =>
          rw [fJ] at hk
          simp at hk
          have:k = 0∨k = 1:=by omega
          rcases this with rfl | rfl
          · exact ⟨0,EF⟩
          · rw [ho' (by simp)] at hπ'
            have h1:(π'.map Prod.fst)[1]? = some 1:=by rw [hπ'];rfl
            rw [List.getElem?_map] at h1
            cases hp:π'[1]? with
            | none=>rw [hp] at h1;cases h1
            | some x =>
              rw [hp] at h1
              simp at h1
              exact ⟨x.2,by rw [← h1]⟩
      · intro k ob ob' h1 h2
        cases hx:oa.isSome <;> cases hy:oa'.isSome <;> rw [hx] at h1 <;> rw [hy] at h2
        all_goals
          match k,h1,h2 with
          | 0,h1,h2 =>
            have e1:=Option.some.inj h1
            have e2:=Option.some.inj h2
            subst e1 e2;rfl
          | 1,h1,h2=>first | (simp [irS] at h1;done) | (simp [irS] at h2;done) | (
            have e1:=Option.some.inj h1
            have e2:=Option.some.inj h2
            subst e1 e2;rfl)
          | k + 2,h1,h2=>simp [irS] at h1
      · intro k hk1 hk2
        cases hx:oa.isSome <;> cases hy:oa'.isSome <;> rw [hx,fJ] at hk1 <;> rw [hy,fJ] at hk2 <;> simp at hk1 hk2
        all_goals first | omega | skip
        have:k = 1:=by omega
        subst this
        rw [show List.range (irS c b mo s false).length = [0] from rfl,Ba]
        rw [fJ];simp
      · intro h1
        cases oa with
        | none=>cases h1
        | some a=>rw [ho' (by simp)];rfl)
  subst hS' hv0
  obtain ⟨g0,hg0⟩:=hfix 0 o 0 hπ0
  have Ux:g0 = 0:=by
    obtain ⟨o',g',ob,q1,q2,q3⟩:=hI'.ob 0 _ (by cases r' <;> rfl:(irS c b mo s' r')[0]? = some (bF c b mo s' (if r' then .sl 1 0 s'.o.length 0 else .ro 0 .pn 0) 0 0))
    rw [hg0] at q1
    simp only [Option.some.injEq,Prod.mk.injEq] at q1
    obtain ⟨_,rfl⟩:=q1
    exact (q3.bx rfl).2.2
  subst Ux
  obtain ⟨oa',hV',Uy,hs',hat'⟩:=IrV.nM hI' hg0 hr'
  obtain ⟨hil,htl,hnt,hmono⟩:=hil
  rw [iO (aO l) (by rw [kS hnt];exact hil) (fun k hk=>by rw [jP hnt,htl] at hk;cases hk)] at hE
  refine ⟨H',oa',s',l,fH hE,hV',by rw [hs'];exact hQ,hlen,?_,?_,?_⟩
  · intro a ha
    subst ha
    cases oa' with
    | none =>
      have:=hmono rfl
      rw [this] at hs';cases hs'
    | some a' =>
      obtain ⟨g,hg⟩:=hat' a' rfl
      have h1:(π.map Prod.fst)[1]? = some a:=by rw [hπ];rfl
      rw [List.getElem?_map] at h1
      cases hp:π[1]? with
      | none=>rw [hp] at h1;cases h1
      | some x =>
        rw [hp] at h1
        simp at h1
        obtain ⟨g2,hg2⟩:=hfix 1 x.1 x.2 hp
        rw [hg] at hg2
        simp at hg2
        rw [hg2.1,h1]
  · intro a ha ha'
    subst ha ha'
    obtain ⟨g,hg⟩:=hat' a rfl
    exact hnew 1 a g (by rw [fJ];simp) hg
  · intro j hj hjo hja
    refine hrest j hj ?_
    intro k x g hk e
    have h1:x ∈ π.map Prod.fst:=List.mem_map.2 ⟨(x,g),List.mem_of_getElem? hk,rfl⟩
    rw [hπ] at h1
    rcases List.mem_cons.1 h1 with h1 | h1
    · exact hjo (e.trans h1)
    · cases oa with
      | none=>simp at h1
      | some a =>
        simp at h1
        exact hja a rfl (e.trans h1)
end
end Go.Proofs.Yteblpjhkgdpchaa
namespace Go.Proofs.Yteblpjhkgdpchaa
open Go.AM
structure Kpt (H H':AM.Heap) (o:Nat) (oa oa':Option Nat):Prop where
  len:H.length≤H'.length
  same:∀ a,oa = some a→oa' = some a
  new:∀ a,oa = none→oa' = some a→H.length≤a
  rest:∀ j,j < H.length→j ≠ o→(∀ a,oa = some a→j ≠ a)→H'[j]? = H[j]?
theorem Kpt.refl (H:AM.Heap) (o:Nat) (oa:Option Nat):Kpt H H o oa oa:=⟨Nat.le_refl _,fun _ h=>h,fun a h h2=>(by rw [h] at h2;cases h2),fun _ _ _ _=>rfl⟩
theorem Kpt.trans {H H1 H2:AM.Heap} {o:Nat} {oa oa1 oa2:Option Nat} (h:Kpt H H1 o oa oa1) (h2:Kpt H1 H2 o oa1 oa2):Kpt H H2 o oa oa2 where
  len:=Nat.le_trans h.len h2.len
  same:=fun a ha=>h2.same a (h.same a ha)
  new:=by
    intro a ha ha2
    cases h1:oa1 with
    | none=>exact Nat.le_trans h.len (h2.new a h1 ha2)
    | some x =>
      have:=h2.same x h1
      rw [ha2] at this
      cases this
      exact h.new a ha h1
  rest:=by
    intro j hj hjo hja
    rw [h2.rest j (Nat.lt_of_lt_of_le hj h.len) hjo ?_,h.rest j hj hjo hja]
    intro a ha
    cases h1:oa with
    | none=>have:=h.new a h1 ha;omega
    | some x =>
      have:=h.same x h1
      rw [ha] at this
      cases this
      exact hja a h1
theorem Kpt.upd {H:AM.Heap} {o:Nat} {oa:Option Nat} (x:Option AM.Obj):Kpt H (AM.upd H o x) o oa oa where
  len:=by simp [AM.upd]
  same:=fun _ h=>h
  new:=fun a h h2=>by rw [h] at h2;cases h2
  rest:=fun j hj hjo _=>by unfold AM.upd;rw [List.getElem?_set_ne (Ne.symm hjo)]
theorem Kpt.cat {H:AM.Heap} {o:Nat} {oa:Option Nat} (r:AM.Heap):Kpt H (H ++ r) o oa oa where
  len:=by simp
  same:=fun _ h=>h
  new:=fun a h h2=>by rw [h] at h2;cases h2
  rest:=fun j hj hjo _=>List.getElem?_append_left hj
def fE (b:List UInt8) (mo:Int) (s:Is):Prop:=s.k≤8 * b.length∧(s.o.length:Int)≤mo
def bV (b:List UInt8) (mo:Int) {α:Type} (m:PM α) (d:α) (s s':Is) (a:α):Prop :=
  fE b mo s'∧if s.e = 0 then (match m s.k s.o with
    | .ok x k o=>s' = ⟨k,o,0⟩∧a = x
    | .err e=>s'.e = e∧e ≠ 0∧a = d) else s' = s∧a = d
section
variable {b:List UInt8} {mo:Int} {α β:Type} {s s1 s2:Is}
theorem bV.bnd {m:PM α} {f:α→PM β} {d x:α} {d2 y:β} (h:bV b mo m d s s1 x) (h2:bV b mo (f x) d2 s1 s2 y):bV b mo (dG m f) d2 s s2 y:=by
  refine ⟨h2.1,?_⟩
  have h1:=h.2
  have h3:=h2.2
  by_cases he:s.e = 0
  · rw [if_pos he] at h1 ⊢
    unfold dG
    cases hm:m s.k s.o with
    | ok a k o =>
      rw [hm] at h1
      obtain ⟨rfl,rfl⟩:=h1
      simpa using h3
    | err e =>
      rw [hm] at h1
      obtain ⟨h4,h5,rfl⟩:=h1
      rw [if_neg (by rw [h4];exact h5)] at h3
      obtain ⟨rfl,rfl⟩:=h3
      exact ⟨h4,h5,rfl⟩
  · rw [if_neg he] at h1 ⊢
    obtain ⟨rfl,rfl⟩:=h1
    rw [if_neg he] at h3
    exact h3
theorem bV.ret {a d:α} (hs:fE b mo s) (h:s.e ≠ 0→a = d):bV b mo (nJ a) d s s a:=by
  refine ⟨hs,?_⟩
  by_cases he:s.e = 0
  · rw [if_pos he]
    exact ⟨by rw [← he],rfl⟩
  · rw [if_neg he]
    exact ⟨rfl,h he⟩
theorem bV.map {m:PM α} {d x:α} (g:α→β) (h:bV b mo m d s s1 x):bV b mo (dG m fun a=>nJ (g a)) (g d) s s1 (g x):=by
  have h1:=h.2
  refine ⟨h.1,?_⟩
  by_cases he:s.e = 0
  · rw [if_pos he] at h1 ⊢
    unfold dG
    cases hm:m s.k s.o with
    | ok a k o =>
      rw [hm] at h1
      obtain ⟨rfl,rfl⟩:=h1
      exact ⟨rfl,rfl⟩
    | err e =>
      rw [hm] at h1
      obtain ⟨h4,h5,rfl⟩:=h1
      exact ⟨h4,h5,rfl⟩
  · rw [if_neg he] at h1 ⊢
    obtain ⟨rfl,rfl⟩:=h1
    exact ⟨rfl,rfl⟩
theorem bV.stop {m:PM α} {d:α} (hs:fE b mo s) (he:s.e ≠ 0):bV b mo m d s s d:=⟨hs,by rw [if_neg he];exact ⟨rfl,rfl⟩⟩
theorem bV.stopped {m:PM α} {d x:α} (h:bV b mo m d s s1 x) (he:s.e ≠ 0):s1 = s∧x = d:=by
  have:=h.2
  rwa [if_neg he] at this
theorem bV.fine {m:PM α} {d x:α} (h:bV b mo m d s s1 x) (he:s1.e = 0):s.e = 0∧m s.k s.o = .ok x s1.k s1.o:=by
  have h1:=h.2
  by_cases h0:s.e = 0
  · rw [if_pos h0] at h1
    cases hm:m s.k s.o with
    | ok a k o =>
      rw [hm] at h1
      obtain ⟨rfl,rfl⟩:=h1
      exact ⟨h0,rfl⟩
    | err e =>
      rw [hm] at h1
      exact absurd (h1.1.symm.trans he) h1.2.1
  · rw [if_neg h0] at h1
    exact absurd (h1.1 ▸ he) h0
theorem bV.err {m:PM α} {d x:α} (h:bV b mo m d s s1 x) (h0:s.e = 0) (he:s1.e ≠ 0):m s.k s.o = .err s1.e∧x = d:=by
  have h1:=h.2
  rw [if_pos h0] at h1
  cases hm:m s.k s.o with
  | ok a k o =>
    rw [hm] at h1
    obtain ⟨rfl,rfl⟩:=h1
    exact absurd rfl he
  | err e =>
    rw [hm] at h1
    exact ⟨by rw [h1.1],h1.2.2⟩
theorem bV.Eb {m:PM α} {d:α} {e:Int} (hs:fE b mo s1) (h0:s.e = 0) (hm:m s.k s.o = .err e) (he:s1.e = e) (hne:e ≠ 0):bV b mo m d s s1 d:=⟨hs,by rw [if_pos h0,hm];exact ⟨he,hne,rfl⟩⟩
theorem bV.PX {m:PM α} {d x:α} {k:Nat} {o:List UInt8} (hs:fE b mo ⟨k,o,0⟩) (h0:s.e = 0) (hm:m s.k s.o = .ok x k o):bV b mo m d s ⟨k,o,0⟩ x:=⟨hs,by rw [if_pos h0,hm];exact ⟨rfl,rfl⟩⟩
end
def fP (s:Is) (e:Int):Is:=if s.e = 0 then { s with e:=e } else s
theorem bV.bad {b:List UInt8} {mo:Int} {α:Type} {s:Is} {e:Int} {d:α} (hs:fE b mo s) (he:e ≠ 0):bV b mo (nK e) d s (fP s e) d:=by
  unfold fP
  by_cases h0:s.e = 0
  · rw [if_pos h0]
    exact bV.Eb (e:=e) ⟨hs.1,hs.2⟩ h0 rfl rfl he
  · rw [if_neg h0]
    exact bV.stop hs h0
section
variable {c:Nat} {b:List UInt8} {mo:Int} {t:Nat} {H:AM.Heap} {o:Nat} {oa:Option Nat} {s:Is}
theorem OuV.upd {vo:AV} {l:List UInt8} {x:Option AM.Obj} (h:OuV t H oa vo l) (hne:∀ a,oa = some a→a ≠ o):OuV t (AM.upd H o x) oa vo l:=by
  cases oa with
  | none=>exact h
  | some a =>
    obtain ⟨g,τ,ob,h1,h2,h3,h4⟩:=h
    exact ⟨g,τ,ob,h1,h2,vG h3 (Ne.symm (hne a rfl)),h4⟩
theorem IrV.set {s':Is} {vo:AV} {τ1 τ:Nat} (hne:∀ a,oa = some a→a ≠ o) (h1:τ1 = 0∨τ1 = t) (h2:τ = 0∨τ = t) (ho:o < H.length) (hv:OuV t H oa vo s'.o):IrV c b mo t (AM.upd H o (some (bF c b mo s' vo τ1 τ))) o oa s' :=
  ⟨⟨vo,τ1,τ,h1,h2,by unfold AM.upd;rw [List.getElem?_set_self ho],hv.upd hne⟩,hne⟩
theorem IrV.lt (h:IrV c b mo t H o oa s):o < H.length∧∀ a,oa = some a→a < H.length:=by
  obtain ⟨⟨vo,τ1,τ,_,_,h0,ho⟩,_⟩:=h
  refine ⟨eP h0,fun a ha=>?_⟩
  subst ha
  obtain ⟨g,τ,ob,_,_,h3,_⟩:=ho
  exact eP h3
theorem IrV.keep {H':AM.Heap} (h:IrV c b mo t H o oa s) (h1:H'[o]? = H[o]?) (h2:∀ a,oa = some a→H'[a]? = H[a]?):IrV c b mo t H' o oa s:=by
  obtain ⟨⟨vo,τ1,τ,a1,a2,h0,ho⟩,hne⟩:=h
  refine ⟨⟨vo,τ1,τ,a1,a2,by rw [h1];exact h0,?_⟩,hne⟩
  cases oa with
  | none=>exact ho
  | some a =>
    obtain ⟨g,τ,ob,b1,b2,b3,b4⟩:=ho
    exact ⟨g,τ,ob,b1,b2,by rw [h2 a rfl];exact b3,b4⟩
theorem IrV.cat {r:AM.Heap} (h:IrV c b mo t H o oa s):IrV c b mo t (H ++ r) o oa s:=h.keep (List.getElem?_append_left h.lt.1) fun a ha=>List.getElem?_append_left (h.lt.2 a ha)
theorem IrV.other {j:Nat} {x:Option AM.Obj} (h:IrV c b mo t H o oa s) (h1:j ≠ o) (h2:∀ a,oa = some a→j ≠ a):IrV c b mo t (AM.upd H j x) o oa s :=
  h.keep (by unfold AM.upd;rw [List.getElem?_set_ne h1]) fun a ha=>by unfold AM.upd;rw [List.getElem?_set_ne (h2 a ha)]
theorem Fj {m:Nat} {e:Int} {E:AM.Heap} (h:IrV c b mo t E 0 oa s):∃ code,Try.f49.body = some code ∧
    aj (jZ fun fr E'=>IrV c b mo t E' 0 oa (fP s e)) X (evT X) 49 m code [(0,.ptr 0 0 0 0),(1,.int .i64 e)] E:=by
  refine ⟨_,rfl,?_⟩
  obtain ⟨⟨vo,τ1,τ,a1,a2,h0,ho⟩,hne⟩:=id h
  unfold fP
  by_cases he:s.e = 0
  · rw [if_pos he]
    refine ⟨⟨.normal,[],AM.upd E 0 (some (bF c b mo { s with e:=e } vo τ1 τ))⟩,⟨.inl rfl,IrV.set hne a1 a2 h.lt.1 ho⟩,?_⟩
    simp only [bF,he] at h0 ⊢
    (refine ⟨0,?_⟩;simp (maxSteps:=2000000) -implicitDefEqProofs [-getElem?_pos,go_sem,eqV,ah,h0])
  · rw [if_neg he]
    have heb:(s.e == 0) = false:=by simpa using he
    refine ⟨⟨.normal,[(0,.ptr 0 0 0 0),(1,.int .i64 e),(8,.bool false)],E⟩,⟨.inl rfl,h⟩,?_⟩
    simp only [bF] at h0
    (refine ⟨0,?_⟩;simp (maxSteps:=2000000) -implicitDefEqProofs [-getElem?_pos,go_sem,eqV,ah,h0,he,heb])
theorem lG {e:Int} (h:IrV c b mo t H o oa s):∃ H',evT X 49 [.ptr o 0 0 0,.int .i64 e] H = some (.tup [],H')∧IrV c b mo t H' o oa (fP s e)∧Kpt H H' o oa oa:=by
  obtain ⟨code,hc,_⟩:=Fj (m:=0) (e:=e) (E:=[some (bF c b mo s (.ro 0 .pn 0) 0 0)]) (c:=c) (b:=b) (mo:=mo) (t:=0) (oa:=none) (s:=⟨s.k,[],s.e⟩) ⟨⟨_,0,0,.inl rfl,.inl rfl,rfl,rfl,0,.inl rfl,rfl⟩,fun a h=>by cases h⟩
  obtain ⟨H',oa',s',l,hE,hV,⟨hs,hl,hr⟩,h1,h2,h3,h4⟩:=QC (f:=49) (n:=3) (xs:=[.int .i64 e]) (ys:=[.int .i64 e]) (Q:=fun s' l r=>s' = fP s e∧l = []∧r = oa.isSome) Try.func49 hc rfl h (fun π K _=>fD.flat rfl rfl fD.nil) rfl rfl (by simp [dM]) (by
    intro m E hE
    obtain ⟨oN,hc2,ht⟩:=Fj (m:=m) (e:=e) hE
    rw [hc] at hc2
    obtain rfl:=Option.some.inj hc2
    rw [aa6]
    exact ht.mono fun o ho=>⟨ho.1,_,_,[],rfl,rfl,rfl,rfl,ho.2,fun h=>(by cases oa with
      | none=>exact absurd rfl h
      | some a=>rfl),rfl,rfl,by cases oa <;> rfl⟩)
  subst hs hl
  have hoa:oa' = oa:=by
    cases oa with
    | none=>cases oa' with
      | none=>rfl
      | some a=>cases hr
    | some a=>exact h2 a rfl
  subst hoa
  exact ⟨H',hE,hV,⟨h1,h2,h3,h4⟩⟩
theorem qy {e:Int} (h:IrV c b mo t H o oa s):∃ H' oa',evT X 49 [.ptr o 0 0 0,.int .i64 e] H = some (.tup [],H')∧IrV c b mo t H' o oa' (fP s e)∧Kpt H H' o oa oa':=by
  obtain ⟨H',h1,h2,h3⟩:=lG (e:=e) h
  exact ⟨H',oa,h1,h2,h3⟩
theorem bsB (H:AM.Heap) (y:UInt8):dh X H 28 1 [(0,.int .u8 (y.toNat:Nat))] = some (.ro 1 (.pb [y]) 0,H):=by
  have:=y.toNat_lt
  have h1:(y.toNat:Int) < 256:=by omega
  simp [dh,kF,vZ,mkRow,jW,eF,cellsOf,scalars,scalar,aB,ids,aU,tags,dU,h1]
theorem OuV.app {vo:AV} {l:List UInt8} (y:UInt8) (h:OuV t H oa vo l) (hH:0 < H.length) (hne:∀ a,oa = some a→a ≠ 0) (hl:l.length≤10000000):∃ v' H' oa',dw X H 28 vo (.ro 1 (.pb [y]) 0) = some (v',H')∧OuV t H' oa' v' (l ++ [y])∧Kpt H H' 0 oa oa'∧H'[0]? = H[0]?∧(∀ a,oa' = some a→a ≠ 0):=by
  cases oa with
  | none =>
    obtain ⟨rfl,τ,hτ,rfl⟩:=h
    have hat:(H ++ [some (⟨.pb [y],0,none,0,true,false,0⟩:AM.Obj)])[H.length]? = some (some ⟨.pb [y],0,none,0,true,false,0⟩):=by simp
    refine ⟨.sl H.length 0 1 0,H ++ [some ⟨.pb [y],0,none,0,true,false,0⟩],some H.length,?_,⟨0,0,_,.inl rfl,rfl,hat,⟨rfl,rfl,rfl,rfl,rfl⟩⟩,⟨by simp,fun a h=>(by cases h),fun a _ h=>(by cases h;exact Nat.le_refl _),fun j hj _ _=>List.getElem?_append_left hj⟩,List.getElem?_append_left hH,fun a h=>by cases h;omega⟩
    simp only [dw,BN,DK,Ns]
    simp [mO,ql,ah,sF,gB,rM,bM,aN]
  | some a =>
    obtain ⟨g,τ,ob,hτ,rfl,ho,hw⟩:=h
    obtain ⟨ob',w1,w2⟩:=Js (C:=X) (T:=28) (e:=5) (src:=.ro 1 (.pb [y]) 0) (m:=[y]) BN Tn DK bytes5 Ns ho hw (.inl (by simp [mO,ql,sF])) (by simp;omega)
    refine ⟨_,_,some a,w2,⟨g + 1,τ,ob',hτ,by simp,setAt ho,w1⟩,⟨by simp [AM.upd],fun a' h=>h,fun a' h=>(by cases h),fun j hj h0 hja=>by unfold AM.upd;rw [List.getElem?_set_ne (Ne.symm (hja a rfl))]⟩,by unfold AM.upd;rw [List.getElem?_set_ne (hne a rfl)],hne⟩
theorem abE {m:Nat} {y:UInt8} {E:AM.Heap} {bb:Bool} (h:IrV c b mo t E 0 oa s):∃ code,((Try.f56.body).bind (aI [1,0,0])) = some code∧Run X (evT X) 56 m code [(0,.ptr 0 0 0 0),(1,.int .u8 (y.toNat:Nat)),(8,.bool bb)] E ⟨.normal,[(0,.ptr 0 0 0 0),(1,.int .u8 (y.toNat:Nat)),(18,.bool (decide (mo≤s.o.length)))],E⟩:=by
  refine ⟨_,rfl,?_⟩
  obtain ⟨⟨vo,τ1,τ,a1,a2,h0,ho⟩,hne⟩:=id h
  simp only [bF] at h0
  cases oa with
  | none =>
    obtain ⟨h1,τ2,hτ2,rfl⟩:=ho
    rw [h1]
    (refine ⟨0,?_⟩;simp (maxSteps:=2000000) -implicitDefEqProofs [-getElem?_pos,go_sem,eqV,ah,h0])
  | some a =>
    obtain ⟨g,τ2,ob,hτ2,rfl,h3,h4⟩:=ho
    have hg:=h4.g
    generalize s.o.length = N at *
    (refine ⟨0,?_⟩;simp (maxSteps:=2000000) -implicitDefEqProofs [-getElem?_pos,go_sem,eqV,ah,h0,h3,hg])
theorem SN {m:Nat} {y:UInt8} {E:AM.Heap} (h:IrV c b mo t E 0 oa s) (hs:fE b mo s) (hm:mo≤1000000):∃ code,Try.f56.body = some code ∧
    aj (jZ fun fr E'=>∃ s' oa',IrV c b mo t E' 0 oa' s'∧(∀ a,oa = some a→oa' = some a)∧bV b mo (rH mo y) () s s' ()) X (evT X) 56 m code [(0,.ptr 0 0 0 0),(1,.int .u8 (y.toNat:Nat))] E:=by
  refine ⟨_,rfl,?_⟩
  obtain ⟨⟨vo,τ1,τ,a1,a2,h0,ho⟩,hne⟩:=id h
  by_cases he:s.e = 0
  · apply aj.seq (fr':=[(0,.ptr 0 0 0 0),(1,.int .u8 (y.toNat:Nat)),(8,.bool false)]) (H':=E)
    · simp only [bF,he] at h0
      (refine ⟨0,?_⟩;simp (maxSteps:=2000000) -implicitDefEqProofs [-getElem?_pos,go_sem,eqV,ah,h0])
    apply aj.assoc
    apply aj.seq (piece (abE h) _ rfl)
    by_cases hl:(s.o.length:Int) < mo
    · have hlI:decide (mo≤(s.o.length:Int)) = false:=by simpa using hl
      rw [hlI]
      have hbs:=bsB E y
      obtain ⟨v',E',oa',hA,hv',hk,hE0,hne'⟩:=ho.app y h.lt.1 hne (by omega)
      have h0':E'[0]? = some (some (bF c b mo s vo τ1 τ)):=by rw [hE0];exact h0
      refine ⟨⟨.normal,[],AM.upd E' 0 (some (bF c b mo ⟨s.k,s.o ++ [y],0⟩ v' τ1 τ))⟩,⟨.inl rfl,⟨s.k,s.o ++ [y],0⟩,oa',IrV.set hne' a1 a2 (eP h0') hv',hk.same,bV.PX ⟨hs.1,by simp;omega⟩ he (by simp [rH,hl])⟩,?_⟩
      simp only [bF,he] at h0 h0' ⊢
      cases oa' with
      | none=>exact absurd hv'.1 (by simp)
      | some a =>
        obtain ⟨g,τ2,ob,_,rfl,_⟩:=hv'
        generalize (s.o ++ [y]).length = N at *
        (refine ⟨0,?_⟩;simp (maxSteps:=2000000) -implicitDefEqProofs [-getElem?_pos,go_sem,eqV,ah,h0,h0',hbs,hA])
    · have hlI:decide (mo≤(s.o.length:Int)) = true:=by simp;omega
      rw [hlI]
      obtain ⟨H',oa',hE,hV,hk⟩:=qy (e:=3) h
      have hfs:fP s 3 = { s with e:=3 }:=by unfold fP;rw [if_pos he]
      refine ⟨⟨.ret,[],H'⟩,⟨.inr rfl,_,oa',hV,hk.same,?_⟩,?_⟩
      · rw [hfs]
        exact bV.Eb (e:=3) ⟨hs.1,hs.2⟩ he (by simp [rH,hl]) rfl (by simp)
      · (refine ⟨0,?_⟩;simp (maxSteps:=2000000) -implicitDefEqProofs [-getElem?_pos,go_sem,eqV,ah,hE])
  · refine ⟨⟨.ret,[(0,.ptr 0 0 0 0),(1,.int .u8 (y.toNat:Nat)),(8,.bool true)],E⟩,⟨.inr rfl,s,oa,h,fun a ha=>ha,bV.stop hs he⟩,?_⟩
    have heb:(s.e != 0) = true:=by simpa using he
    simp only [bF] at h0
    (refine ⟨0,?_⟩;simp (maxSteps:=2000000) -implicitDefEqProofs [-getElem?_pos,go_sem,eqV,ah,h0,he,heb])
end
end Go.Proofs.Yteblpjhkgdpchaa
namespace Go.Proofs.Yteblpjhkgdpchaa
open Go.AM
theorem PW {v:Nat} (h:v < 9223372036854775808):(AM.bits .i64 (v:Int)).toNat = v:=by
  unfold AM.bits
  simp [IntKind.bits]
  omega
theorem Zj {v:Nat} (h:v < 256):(AM.bits .u8 (v:Int)).toNat = v:=by
  unfold AM.bits
  simp [IntKind.bits]
  omega
theorem Zk {v:Nat} (h:v < 256):IntKind.u8.wrap ((AM.bits .u8 (v:Int) &&& AM.bits .u8 1).toNat:Nat) = ((v % 2:Nat):Int):=by
  rw [BitVec.toNat_and,Zj h,show (AM.bits .u8 1).toNat = 1 by decide,Nat.and_one_is_mod,wrap_u8 (by omega) (by omega)]
theorem abG {x y i:Nat} (hx:x < 2 ^ i) (hi:i < 32) (hy:y≤1):IntKind.i64.wrap ((AM.bits .i64 (x:Int) ||| AM.bits .i64 ((y * 2 ^ i:Nat):Int)).toNat:Nat) = ((x + y * 2 ^ i:Nat):Int):=by
  have h1:2 ^ i≤2 ^ 31:=Nat.pow_le_pow_right (by omega) (by omega)
  have h2:y * 2 ^ i≤2 ^ i:=by
    have:=Nat.mul_le_mul_right (2 ^ i) hy
    omega
  rw [BitVec.toNat_or,PW (by omega),PW (by omega)]
  have h3:=Nat.shiftLeft_add_eq_or_of_lt (i:=i) (b:=x) hx y
  rw [Nat.shiftLeft_eq] at h3
  rw [Nat.or_comm,← h3,wrap_i64 (by omega) (by omega)]
  omega
def MV (b:List UInt8) (i:Nat):Nat:=(b.getD (i / 8) 0).toNat / 2 ^ (i % 8) % 2
theorem Zl (b:List UInt8) (i:Nat):je b i = (MV b i:Nat):=rfl
theorem QD (b:List UInt8) (i:Nat):MV b i≤1:=by unfold MV;omega
def vw (b:List UInt8) (k:Nat):Nat→Nat
  | 0=>0
  | n + 1=>vw b k n + MV b (k + n) * 2 ^ n
theorem Iq (b:List UInt8) (k:Nat):∀ n,vw b k n < 2 ^ n
  | 0=>by simp [vw]
  | n + 1=>by
    have h1:=Iq b k n
    have h2:=QD b (k + n)
    have h3:=Nat.mul_le_mul_right (2 ^ n) h2
    rw [vw,Nat.pow_succ]
    omega
theorem Dq (b:List UInt8) (k:Nat) (o:List UInt8):∀ n,k + n≤8 * b.length→gV b n k o = .ok ((vw b k n:Nat):Int) (k + n) o
  | 0,_=>rfl
  | n + 1,h=>by
    unfold gV
    rw [fU (Dq b k o n (by omega))]
    unfold dG vS
    rw [if_pos (by omega)]
    simp only [nJ,Zl,vw]
    congr 1
    rw [Int.natCast_add,Int.natCast_mul,Int.mul_comm]
    simp
theorem D9 (b:List UInt8) (k:Nat) (o:List UInt8) (hk:k≤8 * b.length):∀ n,8 * b.length < k + n→gV b n k o = .err 4
  | 0,h=>by omega
  | n + 1,h=>by
    unfold gV
    by_cases h1:k + n≤8 * b.length
    · rw [fU (Dq b k o n h1)]
      unfold dG vS
      rw [if_neg (by omega)]
    · rw [D8 (D9 b k o hk n (by omega))]
section
variable {c:Nat} {b:List UInt8} {mo:Int} {t:Nat} {H:AM.Heap} {o:Nat} {oa:Option Nat} {s:Is}
def kW (n:Int) (x i:Nat):AM.Frame:=[(0,.ptr 0 0 0 0),(1,.int .i64 n),(5,.int .i64 (x:Nat)),(6,.int .i64 (i:Nat))]
theorem Vp {m n x i:Nat} {E:AM.Heap} (h:IrV c b mo t E 0 oa s):∃ code,((Try.f45.body).bind (aI [1,1,0,1,0,0,0,0])) = some code∧Run X (evT X) 45 m code (kW (n:Nat) x i) E ⟨.normal,kW (n:Nat) x i ++ [(16,.bool (decide (i < n) && (s.e == 0)))],E⟩:=by
  refine ⟨_,rfl,?_⟩
  obtain ⟨⟨vo,τ1,τ,a1,a2,h0,ho⟩,hne⟩:=id h
  simp only [bF] at h0
  by_cases hi:i < n
  · have hI:(i:Int) < (n:Int):=by omega
    simp only [kW,hi,decide_true,Bool.true_and]
    (refine ⟨0,?_⟩;simp (maxSteps:=2000000) -implicitDefEqProofs [-getElem?_pos,go_sem,eqV,ah,h0,hI])
  · have hI:¬ (i:Int) < (n:Int):=by omega
    simp only [kW,hi,decide_false,Bool.false_and]
    (refine ⟨0,?_⟩;simp (maxSteps:=2000000) -implicitDefEqProofs [-getElem?_pos,go_sem,eqV,ah,h0,hI])
theorem Ye {m x i:Nat} {n:Int} {E:AM.Heap} (h:IrV c b mo t E 0 oa s) (hk:s.k≤8 * b.length) (hb:b.length≤100000):∃ code,((Try.f45.body).bind (aI [1,1,0,1,0,0,1,0,0,0,0])) = some code∧Run X (evT X) 45 m code (kW n x i ++ [(16,.bool true)]) E ⟨.normal,kW n x i ++ [(29,.bool (decide (8 * b.length≤s.k)))],E⟩:=by
  refine ⟨_,rfl,?_⟩
  obtain ⟨⟨vo,τ1,τ,a1,a2,h0,ho⟩,hne⟩:=id h
  simp only [bF] at h0
  generalize s.k = q at *
  have e1:((q:Nat):Int).tdiv 8 = ((q / 8:Nat):Int):=by rw [Int.tdiv_eq_ediv_of_nonneg (by omega)];omega
  have e2:((q:Nat):Int) / 8 = ((q / 8:Nat):Int):=by omega
  have w1:IntKind.i64.wrap ((q / 8:Nat):Int) = ((q / 8:Nat):Int):=wrap_i64 (by omega) (by omega)
  have hd:decide (8 * b.length≤q) = decide ((b.length:Int)≤((q / 8:Nat):Int)):=by
    by_cases h1:8 * b.length≤q
    · rw [decide_eq_true h1,decide_eq_true (by omega)]
    · rw [decide_eq_false h1,decide_eq_false (by omega)]
  rw [hd]
  generalize q / 8 = q8 at *
  simp only [kW]
  (refine ⟨0,?_⟩;simp (maxSteps:=2000000) -implicitDefEqProofs [-getElem?_pos,go_sem,eqV,ah,h0,e1,e2,w1])
theorem abH {m x i:Nat} {n:Int} {E:AM.Heap} {d:Bool} (h:IrV c b mo t E 0 oa s) (hk:s.k < 8 * b.length) (hb:b.length≤100000) (hx:x < 2 ^ i) (hi:i < 32):∃ code,((Try.f45.body).bind (aI [1,1,0,1,0,0,1,0,0,1,0])) = some code∧Run X (evT X) 45 m code (kW n x i ++ [(29,.bool d)]) E ⟨.normal,kW n (x + MV b s.k * 2 ^ i) i,E⟩:=by
  refine ⟨_,rfl,?_⟩
  obtain ⟨⟨vo,τ1,τ,a1,a2,h0,ho⟩,hne⟩:=id h
  simp only [bF] at h0
  generalize s.k = q at *
  have hq0:q / 8 < b.length:=by omega
  obtain ⟨y,hget⟩:∃ y,b[q / 8]? = some y:=⟨_,List.getElem?_eq_getElem hq0⟩
  have hn:MV b q = y.toNat / 2 ^ (q % 8) % 2:=by
    unfold MV
    rw [List.getD_eq_getElem?_getD,hget];rfl
  have e1:((q:Nat):Int).tdiv 8 = ((q / 8:Nat):Int):=by rw [Int.tdiv_eq_ediv_of_nonneg (by omega)];omega
  have e2:((q:Nat):Int) / 8 = ((q / 8:Nat):Int):=by omega
  have e3:((q:Nat):Int).tmod 8 = ((q % 8:Nat):Int):=by rw [Int.tmod_eq_emod_of_nonneg (by omega)];omega
  have e4:((q:Nat):Int) % 8 = ((q % 8:Nat):Int):=by omega
  have w1:IntKind.i64.wrap ((q / 8:Nat):Int) = ((q / 8:Nat):Int):=wrap_i64 (by omega) (by omega)
  have hr8:q % 8 < 8:=by omega
  have hr0:¬ (((q % 8:Nat):Int) < 0):=by omega
  have hm8:min (q % 8) 8 = q % 8:=by omega
  have hv:((y.toNat:Nat):Int).fdiv (2 ^ (q % 8)) = ((y.toNat / 2 ^ (q % 8):Nat):Int):=by
    rw [Int.fdiv_eq_ediv_of_nonneg _ (by exact Int.le_of_lt (Int.pow_pos (by omega)))];simp
  have hvl:y.toNat / 2 ^ (q % 8) < 256:=Nat.lt_of_le_of_lt (Nat.div_le_self _ _) y.toNat_lt
  have hA:=Zk hvl
  have hA2:=hA
  simp only [go_sem] at hA2
  rw [← hn] at hA hA2
  have hy:=QD b q
  generalize MV b q = z at *
  have hz:IntKind.i64.wrap ((z:Nat):Int) = (z:Int):=wrap_i64 (by omega) (by omega)
  have h1:2 ^ i≤2 ^ 31:=Nat.pow_le_pow_right (by omega) (by omega)
  have h2:z * 2 ^ i≤2 ^ i:=by
    have:=Nat.mul_le_mul_right (2 ^ i) hy
    omega
  have hs:IntKind.i64.wrap ((z:Int) * 2 ^ i) = ((z * 2 ^ i:Nat):Int):=by
    rw [show (z:Int) * 2 ^ i = ((z * 2 ^ i:Nat):Int) by simp]
    exact wrap_i64 (by omega) (by omega)
  have hmi:min i 64 = i:=by omega
  have hi0:¬ ((i:Nat):Int) < 0:=by omega
  have hO:=abG hx hi hy
  have hO2:=hO
  simp only [go_sem] at hO2
  have hq8:((q / 8:Nat):Int) < (b.length:Int):=by omega
  generalize q / 8 = q8 at *
  generalize q % 8 = r8 at *
  generalize y.toNat / 2 ^ r8 = v at *
  generalize z * 2 ^ i = w at *
  generalize x + w = xw at *
  simp only [kW]
  (refine ⟨0,?_⟩;simp (maxSteps:=2000000) -implicitDefEqProofs [-getElem?_pos,go_sem,eqV,ah,h0,e1,e2,e3,e4,w1,hq8,hq0,hget,hr0,hm8,hv,hA,hA2,hz,hs,hmi,hi0,hO,hO2])
theorem abI {m x i:Nat} {n:Int} {E:AM.Heap} (h:IrV c b mo t E 0 oa s) (hk:s.k < 8 * b.length) (hb:b.length≤100000):∃ E',IrV c b mo t E' 0 oa { s with k:=s.k + 1 }∧∃ code,((Try.f45.body).bind (aI [1,1,0,1,0,0,1,0,0,1,1])) = some code∧Run X (evT X) 45 m code (kW n x i) E ⟨.normal,kW n x i,E'⟩:=by
  obtain ⟨⟨vo,τ1,τ,a1,a2,h0,ho⟩,hne⟩:=id h
  refine ⟨AM.upd E 0 (some (bF c b mo { s with k:=s.k + 1 } vo τ1 τ)),IrV.set hne a1 a2 h.lt.1 ho,_,rfl,?_⟩
  have w:IntKind.i64.wrap ((s.k:Int) + 1) = ((s.k + 1:Nat):Int):=by rw [wrap_i64 (by omega) (by omega)];omega
  simp only [bF,kW] at h0 ⊢
  generalize s.k + 1 = k1 at *
  (refine ⟨0,?_⟩;simp (maxSteps:=2000000) -implicitDefEqProofs [-getElem?_pos,go_sem,eqV,ah,h0,w])
theorem OW {m n:Nat} {E:AM.Heap} (h:IrV c b mo t E 0 oa s) (hs:fE b mo s) (hb:b.length≤100000) (hn:n≤16):∃ code,Try.f45.body = some code ∧
    aj (jZ fun fr E'=>∃ s' oa' a,aQ X fr E' Try.f45.results.toList = some [.int .i64 a]∧IrV c b mo t E' 0 oa' s'∧(∀ x,oa = some x→oa' = some x)∧bV b mo (gV b n) 0 s s' a) X (evT X) 45 m code [(0,.ptr 0 0 0 0),(1,.int .i64 (n:Nat))] E:=by
  refine ⟨_,rfl,?_⟩
  apply aj.seq
  · (refine ⟨0,?_⟩;conv=>lhs;simp (maxSteps:=2000000) -implicitDefEqProofs [-getElem?_pos,go_sem,eqV,ah,ak])
  apply aj.seq
  · (refine ⟨0,?_⟩;conv=>lhs;simp (maxSteps:=2000000) -implicitDefEqProofs [-getElem?_pos,go_sem,eqV,ah,ak])
  apply aj.assoc
  apply aj.seq (fr':=kW (n:Nat) 0 0) (H':=E)
  · (refine ⟨0,?_⟩;simp (maxSteps:=2000000) -implicitDefEqProofs [-getElem?_pos,go_sem,eqV,ah,kW,ak])
  apply aj.sH (P:=fun fr E'=>∃ s' oa' i,∃ x:Nat,fr = kW (n:Nat) x i ++ [(16,.bool false)]∧IrV c b mo t E' 0 oa' s'∧(∀ a,oa = some a→oa' = some a)∧bV b mo (gV b n) 0 s s' (x:Nat))
  · by_cases he:s.e = 0
    · refine aj.kE (I:=fun k fr E'=>∃ oa' i,i≤n∧k = n - i∧s.k + i≤8 * b.length∧fr = kW (n:Nat) (vw b s.k i) i∧IrV c b mo t E' 0 oa' ⟨s.k + i,s.o,0⟩∧(∀ a,oa = some a→oa' = some a)) ?_ (k:=n) ⟨oa,0,by omega,by omega,by have:=hs.1;omega,rfl,(by rw [← he];exact h),fun a ha=>ha⟩
      rintro k fr E' ⟨oa',i,hi,rfl,hki,rfl,hV,hm⟩
      by_cases hin:i = n
      · subst hin
        refine aj.of (o:=⟨.exit 0,kW (i:Nat) (vw b s.k i) i ++ [(16,.bool false)],E'⟩) ?_ (.inr ⟨by simp,.inl ⟨rfl,_,oa',i,vw b s.k i,rfl,hV,hm,bV.PX ⟨hki,hs.2⟩ he (Dq b s.k s.o i hki)⟩⟩)
        apply Run.bG
        · have h3:=Vp (m:=m) (n:=i) (x:=vw b s.k i) (i:=i) hV
          simp only [Nat.lt_irrefl,decide_false,Bool.false_and] at h3
          apply Run.seq (piece h3 _ rfl)
          refine ⟨0,?_⟩
          simp only [kW]
          simp (maxSteps:=2000000) -implicitDefEqProofs [-getElem?_pos,go_sem,eqV,ah]
        · simp
      · have hin':i < n:=by omega
        apply aj.seq (fr':=kW (n:Nat) (vw b s.k i) i ++ [(16,.bool true)]) (H':=E')
        · have h3:=Vp (m:=m) (n:=n) (x:=vw b s.k i) (i:=i) hV
          simp only [hin',decide_true,Bool.true_and,beq_self_eq_true] at h3
          apply Run.seq (piece h3 _ rfl)
          refine ⟨0,?_⟩
          simp only [kW]
          simp (maxSteps:=2000000) -implicitDefEqProofs [-getElem?_pos,go_sem,eqV,ah]
        by_cases hsh:8 * b.length≤s.k + i
        · -- too short
          obtain ⟨E2,oa2,hE2,hV2,hk2⟩:=qy (e:=4) hV
          refine aj.of (o:=⟨.ret,[(4,.int .i64 0)],E2⟩) ?_ (.inr ⟨by simp,.inr ⟨rfl,.inr rfl,?_⟩⟩)
          · apply Run.bG
            · apply Run.block
              · apply Run.bG
                · have h5:=Ye (m:=m) (x:=vw b s.k i) (i:=i) (n:=(n:Nat)) hV hki hb
                  simp only [hsh,decide_true] at h5
                  apply Run.seq (piece h5 _ rfl)
                  refine ⟨0,?_⟩
                  simp only [kW]
                  simp (maxSteps:=2000000) -implicitDefEqProofs [-getElem?_pos,go_sem,eqV,ah,hE2,ak]
                · simp
              · simp
            · simp
          · refine ⟨_,oa2,0,rfl,hV2,fun a ha=>hk2.same a (hm a ha),?_⟩
            refine bV.Eb (e:=4) ?_ he (D9 b s.k s.o hs.1 n (by omega)) ?_ (by simp)
            · simp [fP];exact ⟨hki,hs.2⟩
            · simp [fP]
        · have hlt:s.k + i < 8 * b.length:=by omega
          obtain ⟨E2,hV2,hr9⟩:=abI (m:=m) (x:=vw b s.k (i + 1)) (i:=i) (n:=(n:Nat)) hV hlt hb
          refine aj.of (o:=⟨.normal,kW (n:Nat) (vw b s.k (i + 1)) (i + 1),E2⟩) ?_ (.inl ⟨rfl,n - (i + 1),by omega,oa',i + 1,by omega,rfl,by omega,rfl,hV2,hm⟩)
          apply Run.seq (fr':=kW (n:Nat) (vw b s.k (i + 1)) i) (H':=E2)
          · apply Run.block
            · apply Run.seq (fr':=kW (n:Nat) (vw b s.k i) i ++ [(29,.bool false)]) (H':=E')
              · have h5:=Ye (m:=m) (x:=vw b s.k i) (i:=i) (n:=(n:Nat)) hV hki hb
                simp only [hsh,decide_false] at h5
                apply Run.seq (piece h5 _ rfl)
                refine ⟨0,?_⟩
                simp only [kW]
                simp (maxSteps:=2000000) -implicitDefEqProofs [-getElem?_pos,go_sem,eqV,ah]
              apply Run.seq (piece (abH (m:=m) (n:=(n:Nat)) hV hlt hb (Iq b s.k i) (by omega)) _ rfl)
              exact piece hr9 _ rfl
            · simp
          · have w:IntKind.i64.wrap ((i:Int) + 1) = ((i + 1:Nat):Int):=by rw [wrap_i64 (by omega) (by omega)];omega
            simp only [kW]
            (refine ⟨0,?_⟩;simp (maxSteps:=2000000) -implicitDefEqProofs [-getElem?_pos,go_sem,eqV,ah,w,ak])
    · refine aj.kE (I:=fun k fr E'=>fr = kW (n:Nat) 0 0∧E' = E) ?_ (k:=0) ⟨rfl,rfl⟩
      rintro k fr E' ⟨rfl,rfl⟩
      refine aj.of (o:=⟨.exit 0,kW (n:Nat) 0 0 ++ [(16,.bool false)],E'⟩) ?_ (.inr ⟨by simp,.inl ⟨rfl,s,oa,0,0,rfl,h,fun a ha=>ha,bV.stop hs he⟩⟩)
      apply Run.bG
      · have h3:=Vp (m:=m) (n:=n) (x:=0) (i:=0) h
        rw [show (s.e == 0) = false by simpa using he,Bool.and_false] at h3
        apply Run.seq (piece h3 _ rfl)
        refine ⟨0,?_⟩
        simp only [kW]
        simp (maxSteps:=2000000) -implicitDefEqProofs [-getElem?_pos,go_sem,eqV,ah]
      · simp
  · rintro fr E' ⟨s',oa',i,x,rfl,hV,hm,hr⟩
    refine aj.of (o:=⟨.ret,[(4,.int .i64 (x:Nat))],E'⟩) ?_ ⟨.inr rfl,s',oa',(x:Nat),rfl,hV,hm,hr⟩
    refine ⟨0,?_⟩
    simp only [kW]
    simp (maxSteps:=2000000) -implicitDefEqProofs [-getElem?_pos,go_sem,eqV,ah,ak]
end
end Go.Proofs.Yteblpjhkgdpchaa
namespace Go.Proofs.Yteblpjhkgdpchaa
open Go.AM
def dF (x:Int):List Int→Nat→List Int
  | [],_=>[]
  | y :: r,i=>if y = x then (i:Int) :: dF x r (i + 1) else dF x r (i + 1)
theorem qg (x y:Int):∀ (l:List Int) (i:Nat),dF x (l ++ [y]) i = dF x l i ++ (if y = x then [((i + l.length:Nat):Int)] else [])
  | [],i=>by simp [dF]
  | z :: r,i=>by
    simp only [List.cons_append,dF,qg x y r (i + 1),List.length_cons]
    rw [show i + 1 + r.length = i + (r.length + 1) by omega]
    split <;> simp
theorem Fp (x:Int):∀ (l:List Int) (i:Nat),dF x l i = [] ↔ x ∉ l
  | [],i=>by simp [dF]
  | z :: r,i=>by
    simp only [dF,List.mem_cons,not_or]
    by_cases h:z = x
    · simp [h]
    · rw [if_neg h,Fp x r (i + 1)]
      exact ⟨fun g=>⟨fun e=>h e.symm,g⟩,fun g=>g.2⟩
def kK (ps:List Int) (g t:Nat):Option AM.Obj:=some { p:=.pi .i64 ps,g:=g,cap:=.none,z:=if ps.length≤1 then 0 else 1,row:=true,ids:=false,tg:=t }
def syV (d tn:Nat) (ks:List Int) (l:List Int) (gr:Bool) (x:Int):AV :=
  if x ∈ ks then .sl (d + ks.idxOf x) 0 (dF x l 0).length (if gr then (dF x l 0).length - 1 else 0) else .ro 0 .pn tn
def jX:List Int:=[0,1,2,3,4,5,6,7,8,9,10,11,12,13,14,15]
def jY (v:AV) (t:Nat):Option AM.Obj:=some { p:=.pc [v],g:=0,cap:=some 1,z:=1,row:=false,ids:=true,tg:=t }
def oU (k:Nat) (n:List Int) (t:Nat):Option AM.Obj:=some { p:=.pi .i64 n,g:=0,cap:=some k,z:=1,row:=false,ids:=false,tg:=t }
def vC (s:List AV) (t:Nat):Option AM.Obj:=some { p:=.pc s,g:=0,cap:=some 16,z:=1,row:=false,ids:=true,tg:=t }
def rdH (c:Nat) (b:List UInt8) (a:Int) (n f:List Int) (ks done:List Int) (m:Int):AM.Heap :=
  [jY (.ro c (.pb b) 2) 0,jY (.int .i64 a) 0,oU 16 n 0,oU 17 f 0,vC (jX.map (syV 6 0 ks done true)) 0,jY (.int .i64 m) 0] ++ ks.map fun x=>kK (dF x done 0) ((dF x done 0).length - 1) 0
theorem Xz {H:AM.Heap} (i:Int):dw X H 41 (.ro 0 .pn 0) (.ro 1 (.pi .i64 [i]) 0) = some (.sl H.length 0 1 0,H ++ [kK [i] 0 0]):=by
  have hroom:gB X 3 1 = true:=by simp [gB]
  simp only [dw,HY,size3,SC]
  simp [mO,ql,ah,bM,rM,aN,sF,eH,hroom,kK]
theorem XA {H:AM.Heap} {o g:Nat} {ps:List Int} (i:Int) (ho:H[o]? = some (kK ps g 0)) (h0:ps ≠ []) (h:ps.length≤100000):dw X H 41 (.sl o 0 ps.length g) (.ro 1 (.pi .i64 [i]) 0) = some (.sl o 0 (ps.length + 1) (g + 1),H.set o (kK (ps ++ [i]) (g + 1) 0)):=by
  have hroom:gB X 3 (ps.length + 1) = true:=by
    simp [gB]
    omega
  have ho':H[o]? = some (some ⟨.pi .i64 ps,g,.none,(if ps.length≤1 then 0 else 1),true,false,0⟩):=ho
  simp only [dw,HY,size3,SC]
  simp [mO,ql,ah,live,ho',jv,rM,aN,sF,eH,hroom,upd,kK,h0]
def JJ (ks done:List Int):Prop:=ks.Nodup∧∀ x,x ∈ ks ↔ x ∈ done
theorem DC {x:Int} (h:0≤x∧x≤15):jX[x.toNat]? = some x:=by
  have hx:x = 0∨x = 1∨x = 2∨x = 3∨x = 4∨x = 5∨x = 6∨x = 7∨x = 8∨x = 9∨x = 10∨x = 11∨x = 12∨x = 13∨x = 14∨x = 15:=by omega
  rcases hx with rfl | rfl | rfl | rfl | rfl | rfl | rfl | rfl | rfl | rfl | rfl | rfl | rfl | rfl | rfl | rfl <;> rfl
theorem Fq {j:Nat} (h:j < 16):jX[j]? = some (j:Int):=by
  have:=DC (x:=(j:Int)) (by omega)
  rwa [show ((j:Int)).toNat = j by omega] at this
theorem Ia (d tn:Nat) (ks ks' done:List Int) (x:Int) (v:AV) (hx:0≤x∧x≤15) (hv:v = syV d tn ks' (done ++ [x]) true x) (hk:∀ y,y ≠ x→((y ∈ ks' ↔ y ∈ ks)∧(y ∈ ks→ks'.idxOf y = ks.idxOf y))) :
    (jX.map (syV d tn ks done true)).set x.toNat v = jX.map (syV d tn ks' (done ++ [x]) true):=by
  refine List.ext_getElem? fun j=>?_
  rw [List.getElem?_set]
  by_cases hj:j < 16
  · by_cases e:x.toNat = j
    · subst e
      have:x.toNat < (jX.map (syV d tn ks done true)).length:=by simp [jX];omega
      rw [if_pos rfl,if_pos this,List.getElem?_map,DC hx,hv];rfl
    · rw [if_neg e,List.getElem?_map,List.getElem?_map,Fq hj]
      simp only [Option.map_some,Option.some.injEq]
      have hne:(j:Int) ≠ x:=by omega
      obtain ⟨h1,h2⟩:=hk (j:Int) hne
      have hp:dF (j:Int) (done ++ [x]) 0 = dF (j:Int) done 0:=by
        rw [qg,if_neg (fun z=>hne z.symm)];simp
      unfold syV
      rw [hp]
      by_cases hm:(j:Int) ∈ ks
      · rw [if_pos hm,if_pos (h1.2 hm),h2 hm]
      · rw [if_neg hm,if_neg (fun z=>hm (h1.1 z))]
  · have h1:(jX.map (syV d tn ks done true)).length≤j:=by simp [jX];omega
    have h2:(jX.map (syV d tn ks' (done ++ [x]) true)).length≤j:=by simp [jX];omega
    have h3:¬ x.toNat = j:=by omega
    rw [if_neg h3,List.getElem?_eq_none h1,List.getElem?_eq_none h2]
theorem XB (Bx:List (Option AM.Obj)) (hB:Bx.length = 6) (ks done:List Int) (x:Int) (hx:0≤x∧x≤15) (hk:JJ ks done) (hl:done.length≤320) :
    ∃ o2 n2 g2 R' ks',dw X (Bx ++ ks.map fun x=>kK (dF x done 0) ((dF x done 0).length - 1) 0) 41 (syV 6 0 ks done true x) (.ro 1 (.pi .i64 [(done.length:Int)]) 0) = some (.sl o2 0 n2 g2,Bx ++ R') ∧
      JJ ks' (done ++ [x])∧(jX.map (syV 6 0 ks done true)).set x.toNat (.sl o2 0 n2 g2) = jX.map (syV 6 0 ks' (done ++ [x]) true)∧R' = ks'.map (fun y=>kK (dF y (done ++ [x]) 0) ((dF y (done ++ [x]) 0).length - 1) 0):=by
  have hpl:∀ y (m:List Int) (i:Nat),(dF y m i).length≤m.length:=by
    intro y m
    induction m with
    | nil=>intro i;simp [dF]
    | cons z r ih=>intro i;simp only [dF];split <;> simp <;> have:=ih (i + 1) <;> omega
  by_cases hin:x ∈ ks
  · -- there already
    have hxd:x ∈ done:=(hk.2 x).1 hin
    have hne:dF x done 0 ≠ []:=fun z=>(Fp x done 0).1 z hxd
    have hlen:0 < (dF x done 0).length:=List.length_pos_iff.2 hne
    have hix:ks.idxOf x < ks.length:=List.idxOf_lt_length_of_mem hin
    have hat:(Bx ++ ks.map fun x=>kK (dF x done 0) ((dF x done 0).length - 1) 0)[6 + ks.idxOf x]? = some (kK (dF x done 0) ((dF x done 0).length - 1) 0):=by
      rw [List.getElem?_append_right (by omega),hB,show 6 + ks.idxOf x - 6 = ks.idxOf x by omega,List.getElem?_map,List.getElem?_eq_getElem hix]
      simp
    have happ:=XA (done.length:Int) hat hne (by have:=hpl x done 0;omega)
    have hv:syV 6 0 ks done true x = .sl (6 + ks.idxOf x) 0 (dF x done 0).length ((dF x done 0).length - 1):=by simp [syV,hin]
    rw [hv,happ]
    have hpx:dF x (done ++ [x]) 0 = dF x done 0 ++ [(done.length:Int)]:=by rw [qg];simp
    refine ⟨6 + ks.idxOf x,(dF x done 0).length + 1,(dF x done 0).length - 1 + 1,(ks.map fun x=>kK (dF x done 0) ((dF x done 0).length - 1) 0).set (ks.idxOf x) (kK (dF x done 0 ++ [(done.length:Int)]) ((dF x done 0).length - 1 + 1) 0),ks,?_,⟨hk.1,?_⟩,?_,?_⟩
    · rw [List.set_append_right _ _ (by omega),hB,show 6 + ks.idxOf x - 6 = ks.idxOf x by omega]
    · intro y
      rw [hk.2 y]
      simp only [List.mem_append,List.mem_singleton]
      exact ⟨fun h=>.inl h,fun h=>h.elim id (fun e=>e ▸ hxd)⟩
    · refine Ia 6 0 ks ks done x _ hx ?_ fun y _=>⟨Iff.rfl,fun _=>rfl⟩
      unfold syV
      rw [if_pos hin,hpx]
      simp
      omega
    · refine List.ext_getElem? fun j=>?_
      rw [List.getElem?_set]
      by_cases hj:j < ks.length
      · by_cases e:ks.idxOf x = j
        · subst e
          rw [if_pos rfl,if_pos (by simpa using hix),List.getElem?_map,List.getElem?_eq_getElem hix]
          simp only [Option.map_some,Option.some.injEq]
          rw [List.getElem_idxOf,hpx]
          simp
          congr 1;omega
        · rw [if_neg e,List.getElem?_map,List.getElem?_map,List.getElem?_eq_getElem hj]
          simp only [Option.map_some,Option.some.injEq]
          have hne2:¬ x = ks[j]:=by
            intro z
            apply e
            rw [z]
            exact List.Nodup.idxOf_getElem hk.1 j hj
          rw [qg,if_neg hne2];simp
      · rw [List.getElem?_eq_none (by simp;omega)]
        rw [if_neg (by omega),List.getElem?_eq_none (by simp;omega)]
  · have hxd:x ∉ done:=fun h=>hin ((hk.2 x).2 h)
    have hp0:dF x done 0 = []:=(Fp x done 0).2 hxd
    have hv:syV 6 0 ks done true x = .ro 0 .pn 0:=by simp [syV,hin]
    have hpx:dF x (done ++ [x]) 0 = [(done.length:Int)]:=by rw [qg,hp0];simp
    rw [hv,Xz]
    have hix:(ks ++ [x]).idxOf x = ks.length:=by
      rw [List.idxOf_append,if_neg hin];simp
    refine ⟨(Bx ++ ks.map fun x=>kK (dF x done 0) ((dF x done 0).length - 1) 0).length,1,0,(ks.map fun x=>kK (dF x done 0) ((dF x done 0).length - 1) 0) ++ [kK [(done.length:Int)] 0 0],ks ++ [x],?_,⟨?_,?_⟩,?_,?_⟩
    · rw [List.append_assoc]
    · rw [List.nodup_append]
      exact ⟨hk.1,by simp,fun a ha b hb=>by simp at hb;subst hb;rintro rfl;exact hin ha⟩
    · intro y
      simp only [List.mem_append,List.mem_singleton,hk.2 y]
    · refine Ia 6 0 ks (ks ++ [x]) done x _ hx ?_ fun y hy=>⟨by simp [hy],fun h=>by rw [List.idxOf_append,if_pos h]⟩
      unfold syV
      rw [if_pos (by simp),hpx,hix]
      simp [hB]
    · rw [List.map_append]
      congr 1
      · refine List.map_congr_left fun y hy=>?_
        have:¬ x = y:=fun z=>hin (z ▸ hy)
        rw [qg,if_neg this];simp
      · simp [hpx]
end Go.Proofs.Yteblpjhkgdpchaa
namespace Go.Proofs.Yteblpjhkgdpchaa
open Go.AM
def BH (c:Nat) (l:List Int) (i:Nat):AM.Frame:=[(4,.ptr 0 0 0 0),(5,.ptr 1 0 0 0),(7,.ptr 2 0 0 0),(9,.ptr 3 0 0 0),(10,.ptr 4 0 0 0),(11,.ptr 5 0 0 0),(21,.ro c (.pi .i64 l) 1),(22,.int .i64 l.length),(23,.int .i64 (i:Nat))]
theorem MW (c c2:Nat) (l:List Int) (b:List UInt8) (a:Int) (hl:l.length≤320) (hf:fine l = true):∃ code,Try.f64.body = some code ∧
    ∃ o,Run X T2 64 0 code [(0,.ro c (.pi .i64 l) 1),(1,.ro c2 (.pb b) 2),(2,.int .i64 a)] [] o ∧
      (∃ ks,JJ ks l∧o = ⟨.ret,[(6,.fn 65 [.ptr 5 0 0 0,.ptr 1 0 0 0,.ptr 0 0 0 0,.ptr 3 0 0 0,.ptr 2 0 0 0,.ptr 4 0 0 0])],rdH c2 b a (bf l).1 (dQ (bf l).1) ks l (mxL 0 l)⟩):=by
  refine ⟨_,rfl,?_⟩
  have hc:=fun H=>Gp (H:=H) (a:=.ro c (.pi .i64 l) 1) (l:=l) rfl (by omega)
  unfold cnt at hc
  have hfi:=fun H=>Gq (H:=H) (jO l)
  have hnl:=jO l
  have hfl:(dQ (bf l).1).length = 17:=by unfold dQ;rw [kQ];rfl
  generalize (bf l).1 = n at *
  generalize dQ n = fi at *
  apply D7
  · (refine ⟨0,?_⟩;conv=>lhs;simp (maxSteps:=2000000) -implicitDefEqProofs [-getElem?_pos,go_sem,eqV,ah])
  apply D7
  · (refine ⟨0,?_⟩;conv=>lhs;simp (maxSteps:=2000000) -implicitDefEqProofs [-getElem?_pos,go_sem,eqV,ah,hc,hnl])
  apply D7
  · (refine ⟨0,?_⟩;conv=>lhs;simp (maxSteps:=2000000) -implicitDefEqProofs [-getElem?_pos,go_sem,eqV,ah,hfi,hnl,hfl])
  apply D7
  · (refine ⟨0,?_⟩;conv=>lhs;simp (maxSteps:=2000000) -implicitDefEqProofs [-getElem?_pos,go_sem,eqV,ah])
  apply D7
  · (refine ⟨0,?_⟩;conv=>lhs;simp (maxSteps:=2000000) -implicitDefEqProofs [-getElem?_pos,go_sem,eqV,ah])
  refine V6 (P:=fun o=>∃ ks,JJ ks l∧o = ⟨.exit 0,BH c l l.length ++ [(24,.bool false)],rdH c2 b a n fi ks l (mxL 0 l)⟩) (fr1:=BH c l 0) (H1:=rdH c2 b a n fi [] [] 0) ?_ (Q7 (σ:=(List Int × List Int) × (List Int × Int)) (fun t=>t.1.1 ++ t.1.2 = l∧JJ t.2.1 t.1.1∧mxL t.2.2 t.1.2 = mxL 0 l) (fun t=>BH c l t.1.1.length) (fun t=>rdH c2 b a n fi t.2.1 t.1.1 t.2.2) (fun t o=>∃ ks,JJ ks l∧o = ⟨.exit 0,BH c l l.length ++ [(24,.bool false)],rdH c2 b a n fi ks l (mxL 0 l)⟩) (fun t=>t.1.2.length) ?_ (([],l),([],0)) ⟨rfl,⟨by simp,by simp⟩,rfl⟩) ?_
  · (refine ⟨0,?_⟩;simp (maxSteps:=2000000) -implicitDefEqProofs [-getElem?_pos,go_sem,eqV,ah,BH,rdH,jX,syV,jY,oU,vC])
  · rintro ⟨⟨done,todo⟩,⟨ks,m⟩⟩ ⟨hd,hk,hm⟩
    simp only at hd hk hm ⊢
    cases todo with
    | nil =>
      have hlen:done.length = l.length:=by rw [← hd];simp
      have hdl:done = l:=by simpa using hd
      subst hdl
      have hm':m = mxL 0 done:=by simpa [mxL] using hm
      refine ⟨⟨.exit 0,BH c done done.length ++ [(24,.bool false)],rdH c2 b a n fi ks done (mxL 0 done)⟩,?_,.inr ⟨by simp,ks,hk,rfl⟩⟩
      rw [hm']
      apply Run.seq
      · (refine ⟨0,?_⟩;conv=>lhs;simp (maxSteps:=2000000) -implicitDefEqProofs [-getElem?_pos,go_sem,eqV,ah,BH])
      apply Run.bG
      · (refine ⟨0,?_⟩;simp (maxSteps:=2000000) -implicitDefEqProofs [-getElem?_pos,go_sem,eqV,ah,BH])
      · simp
    | cons x todo =>
      have hlt:done.length < l.length:=by rw [← hd];simp
      have hget:l[done.length]? = some x:=by rw [← hd];simp
      have lI:(done.length:Int) < (l.length:Int):=by omega
      have e:IntKind.i64.wrap ((done.length:Int) + 1) = (done.length:Int) + 1:=wrap_i64 (by omega) (by omega)
      have hx:0≤x∧x≤15:=by
        have:=List.all_eq_true.1 hf x (by rw [← hd];simp)
        simpa using this
      obtain ⟨o2,n2,g2,R',ks',happ,hk',hset,hR⟩:=XB [jY (.ro c2 (.pb b) 2) 0,jY (.int .i64 a) 0,oU 16 n 0,oU 17 fi 0,vC (jX.map (syV 6 0 ks done true)) 0,jY (.int .i64 m) 0] rfl ks done x hx hk (by omega)
      refine ⟨⟨.normal,BH c l (done ++ [x]).length,rdH c2 b a n fi ks' (done ++ [x]) (if m < x then x else m)⟩,?_,.inl ⟨((done ++ [x],todo),(ks',if m < x then x else m)),⟨by simpa using hd,hk',by rw [← hm];rfl⟩,rfl,fun _ h=>h,by simp⟩⟩
      have hS:(jX.map (syV 6 0 ks done true))[x.toNat]? = some (syV 6 0 ks done true x):=by rw [List.getElem?_map,DC hx];rfl
      have hSl:(jX.map (syV 6 0 ks done true)).length = 16:=by simp [jX]
      unfold rdH
      rw [← hset,← hR]
      generalize hA:jX.map (syV 6 0 ks done true) = A at *
      generalize syV 6 0 ks done true x = v at *
      generalize ks.map (fun x=>kK (dF x done 0) ((dF x done 0).length - 1) 0) = R at *
      simp only [jY,oU,vC,List.cons_append,List.nil_append] at happ ⊢
      have hx16:x < 16:=by omega
      have hx0:=hx.1
      apply Run.seq
      · (refine ⟨0,?_⟩;conv=>lhs;simp (maxSteps:=2000000) -implicitDefEqProofs [-getElem?_pos,go_sem,eqV,ah,BH,lI])
      apply Run.seq
      · (refine ⟨0,?_⟩;conv=>lhs;simp (maxSteps:=2000000) -implicitDefEqProofs [-getElem?_pos,go_sem,eqV,ah])
      have hfr:∀ i:Nat,BH c l i = [(4,.ptr 0 0 0 0),(5,.ptr 1 0 0 0),(7,.ptr 2 0 0 0),(9,.ptr 3 0 0 0),(10,.ptr 4 0 0 0),(11,.ptr 5 0 0 0),(21,.ro c (.pi .i64 l) 1),(22,.int .i64 l.length),(23,.int .i64 (i:Nat))]:=fun _=>rfl
      apply Run.seq (fr':=BH c l done.length) (H':=[some { p:=.pc [.ro c2 (.pb b) 2],g:=0,cap:=some 1,z:=1,row:=false,ids:=true,tg:=0 },some { p:=.pc [.int .i64 a],g:=0,cap:=some 1,z:=1,row:=false,ids:=true,tg:=0 },some { p:=.pi .i64 n,g:=0,cap:=some 16,z:=1,row:=false,ids:=false,tg:=0 },some { p:=.pi .i64 fi,g:=0,cap:=some 17,z:=1,row:=false,ids:=false,tg:=0 },some { p:=.pc (A.set x.toNat (.sl o2 0 n2 g2)),g:=0,cap:=some 16,z:=1,row:=false,ids:=true,tg:=0 },some { p:=.pc [.int .i64 (if m < x then x else m)],g:=0,cap:=some 1,z:=1,row:=false,ids:=true,tg:=0 }] ++ R')
      · apply Run.block
        · apply Run.seq
          · (refine ⟨0,?_⟩;conv=>lhs;simp (maxSteps:=2000000) -implicitDefEqProofs [-getElem?_pos,go_sem,eqV,ah,hget,hlt])
          apply Run.seq (fr':=[(4,.ptr 0 0 0 0),(5,.ptr 1 0 0 0),(7,.ptr 2 0 0 0),(9,.ptr 3 0 0 0),(10,.ptr 4 0 0 0),(11,.ptr 5 0 0 0),(13,.int .i64 x),(21,.ro c (.pi .i64 l) 1),(22,.int .i64 l.length),(23,.int .i64 (done.length:Nat))]) (H':=[some { p:=.pc [.ro c2 (.pb b) 2],g:=0,cap:=some 1,z:=1,row:=false,ids:=true,tg:=0 },some { p:=.pc [.int .i64 a],g:=0,cap:=some 1,z:=1,row:=false,ids:=true,tg:=0 },some { p:=.pi .i64 n,g:=0,cap:=some 16,z:=1,row:=false,ids:=false,tg:=0 },some { p:=.pi .i64 fi,g:=0,cap:=some 17,z:=1,row:=false,ids:=false,tg:=0 },some { p:=.pc (A.set x.toNat (.sl o2 0 n2 g2)),g:=0,cap:=some 16,z:=1,row:=false,ids:=true,tg:=0 },some { p:=.pc [.int .i64 m],g:=0,cap:=some 1,z:=1,row:=false,ids:=true,tg:=0 }] ++ R')
          · (refine ⟨0,?_⟩;simp (maxSteps:=2000000) -implicitDefEqProofs [-getElem?_pos,go_sem,eqV,ah,hS,hx0,hx16,happ,bsI,hSl])
          · (refine ⟨0,?_⟩;simp (maxSteps:=2000000) -implicitDefEqProofs [-getElem?_pos,go_sem,eqV,ah,pq,hfr])
        · simp
      · (refine ⟨0,?_⟩;simp (maxSteps:=2000000) -implicitDefEqProofs [-getElem?_pos,go_sem,eqV,ah,e,hfr])
  · rintro o ⟨ks,hk,rfl⟩
    refine .inl ⟨_,_,rfl,_,?_,ks,hk,rfl⟩
    have hsc:scalars [.ptr 5 0 0 0,.ptr 1 0 0 0,.ptr 0 0 0 0,.ptr 3 0 0 0,.ptr 2 0 0 0,.ptr 4 0 0 0] = true:=rfl
    refine ⟨0,?_⟩
    simp (maxSteps:=2000000) -implicitDefEqProofs [-getElem?_pos,go_sem,eqV,ah,BH,hsc]
end Go.Proofs.Yteblpjhkgdpchaa
namespace Go.Proofs.Yteblpjhkgdpchaa
open Go.AM
def aV (l:List Int):List Int:=jX.filter (fun x=>decide (x ∈ l))
def nH (c:Nat) (b:List UInt8) (a m:Int) (n f l:List Int) (d t tb tn:Nat):AM.Heap :=
  [jY (.int .i64 m) t,jY (.int .i64 a) t,jY (.ro c (.pb b) tb) t,oU 17 f t,oU 16 n t,vC (jX.map (syV (d + 6) tn (aV l) l false)) t] ++ (aV l).map fun x=>kK (dF x l 0) 0 t
def oV (l n f:List Int) (b:List UInt8) (a:Nat):Nat→Nat→Int→(Int × Int × Int) × Nat
  | 0,i,_=>((0,0,5),a + i - 1)
  | k + 1,i,code=>if 8 * b.length≤a + i - 1 then ((0,0,4),a + i - 1) else
    if 0≤2 * code + je b (a + i - 1) - f.getD i 0∧2 * code + je b (a + i - 1) - f.getD i 0 < n.getD i 0 then
      (((dF i l 0).getD (2 * code + je b (a + i - 1) - f.getD i 0).toNat 0,i,0),a + i)
    else oV l n f b a k (i + 1) (2 * code + je b (a + i - 1))
theorem or_bit (c x:Nat) (h:x≤1):(2 * c) ||| x = 2 * c + x:=by
  have:=Nat.shiftLeft_add_eq_or_of_lt (i:=1) (b:=x) (by omega) c
  rw [Nat.shiftLeft_eq,Nat.pow_one,Nat.mul_comm] at this
  exact this.symm
theorem SQ {v:Nat} (h:v < 256):(AM.bits .u8 (v:Int)).toNat = v:=by
  unfold AM.bits
  simp [IntKind.bits]
  omega
theorem BI:(AM.bits .u8 1).toNat = 1:=by decide
theorem wK:∀ (l:List Int) (x:Int) (i:Nat),(dF x l i).length = l.count x
  | [],x,i=>by simp [dF]
  | y :: r,x,i=>by
    simp only [dF,List.count_cons]
    by_cases h:y = x
    · simp [h,wK r x (i + 1)]
    · simp [h,wK r x (i + 1)]
def XC (code:Int) (i:Nat):AM.Frame:=[(0,.ptr 0 0 0 0),(1,.ptr 1 0 0 0),(2,.ptr 2 0 0 0),(3,.ptr 3 0 0 0),(4,.ptr 4 0 0 0),(5,.ptr 5 0 0 0),(9,.int .i64 code),(10,.int .i64 (i:Nat))]
def nxO (c:Nat) (b:List UInt8) (m:Int) (n f l:List Int) (t:Nat) (r:(Int × Int × Int) × Nat):AM.Out :=
  ⟨.ret,[(6,.int .i64 r.1.1),(7,.int .i64 r.1.2.1),(8,.int .i64 r.1.2.2)],nH c b (r.2:Nat) m n f l 0 t t t⟩
theorem SS (T:Cf) (c t mm:Nat) (b:List UInt8) (a:Nat) (m:Int) (n f l:List Int) (hm:0≤m∧m≤15) (hl:l.length≤320) (hn:n.length = 16) (hf:f.length = 17) (hnv:∀ i:Nat,i < 16→n.getD i 0 = ct l i)
    (hfv:∀ i:Nat,i < 16→0≤f.getD i 0∧f.getD i 0 < 100000000) (hb:b.length≤100000) (ha:a < 9223372036854775808):∃ code,Try.f65.body = some code ∧
    Run X T 65 mm code [(0,.ptr 0 0 0 0),(1,.ptr 1 0 0 0),(2,.ptr 2 0 0 0),(3,.ptr 3 0 0 0),(4,.ptr 4 0 0 0),(5,.ptr 5 0 0 0)] (nH c b (a:Nat) m n f l 0 t t t) (nxO c b m n f l t (oV l n f b a m.toNat 1 0)):=by
  refine ⟨_,rfl,?_⟩
  have hfr:∀ (code:Int) (i:Nat),XC code i = [(0,.ptr 0 0 0 0),(1,.ptr 1 0 0 0),(2,.ptr 2 0 0 0),(3,.ptr 3 0 0 0),(4,.ptr 4 0 0 0),(5,.ptr 5 0 0 0),(9,.int .i64 code),(10,.int .i64 (i:Nat))]:=fun _ _=>rfl
  generalize hSA:jX.map (syV (0 + 6) t (aV l) l false) = A
  generalize hRA:((aV l).map fun x=>kK (dF x l 0) 0 t) = R
  have hH:∀ a:Int,nH c b a m n f l 0 t t t = some { p:=.pc [.int .i64 m],g:=0,cap:=some 1,z:=1,row:=false,ids:=true,tg:=t } :: some { p:=.pc [.int .i64 a],g:=0,cap:=some 1,z:=1,row:=false,ids:=true,tg:=t } ::
      some { p:=.pc [.ro c (.pb b) t],g:=0,cap:=some 1,z:=1,row:=false,ids:=true,tg:=t } :: some { p:=.pi .i64 f,g:=0,cap:=some 17,z:=1,row:=false,ids:=false,tg:=t } :: some { p:=.pi .i64 n,g:=0,cap:=some 16,z:=1,row:=false,ids:=false,tg:=t } ::
      some { p:=.pc A,g:=0,cap:=some 16,z:=1,row:=false,ids:=true,tg:=t } :: R:=by
    intro a
    rw [← hSA,← hRA]
    rfl
  apply Run.seq
  · (refine ⟨0,?_⟩;conv=>lhs;simp (maxSteps:=2000000) -implicitDefEqProofs [-getElem?_pos,go_sem,eqV,ah,hH])
  apply Run.seq
  · (refine ⟨0,?_⟩;conv=>lhs;simp (maxSteps:=2000000) -implicitDefEqProofs [-getElem?_pos,go_sem,eqV,ah])
  apply Run.seq (fr':=XC 0 1) (H':=nH c b (a:Nat) m n f l 0 t t t)
  · (refine ⟨0,?_⟩;simp (maxSteps:=2000000) -implicitDefEqProofs [-getElem?_pos,go_sem,eqV,ah,hfr,hH])
  have hout:∀ r,jA 0 (nxO c b m n f l t r) = nxO c b m n f l t r:=fun _=>rfl
  rw [← hout]
  apply Run.block'
  refine Run.sJ (σ:=Nat × Nat × Int) (fun s=>s.1 + s.2.1 = m.toNat + 1∧0 < s.2.1∧0≤s.2.2∧s.2.2 < 2 ^ (s.2.1 - 1)∧(s.2.1 = 1∨a + s.2.1 - 1≤8 * b.length)) (fun s=>XC s.2.2 s.2.1) (fun s=>nH c b ((a + s.2.1 - 1:Nat):Int) m n f l 0 t t t) (fun s=>nxO c b m n f l t (oV l n f b a s.1 s.2.1 s.2.2)) (fun s=>s.1) ?_ (m.toNat,1,0) ⟨rfl,by simp,by simp,by simp,.inl rfl⟩
  rintro ⟨k,i,code⟩ ⟨hk,hi0,hc0,hc1,hai⟩
  simp only at hk hi0 hc0 hc1 hai ⊢
  have ha2:a + i - 1 < 9223372036854775808:=by omega
  have hai2:a + i - 1 + 1 = a + i:=by omega
  have aiL:a + (i + 1) - 1 = a + i:=by omega
  generalize hq:a + i - 1 = q at *
  cases k with
  | zero =>
    right
    refine ⟨?_,by simp [nxO]⟩
    have hgt:m < (i:Int):=by omega
    unfold nxO oV
    rw [hq]
    apply Run.bG
    · (refine ⟨0,?_⟩;simp (maxSteps:=2000000) -implicitDefEqProofs [-getElem?_pos,go_sem,eqV,ah,hfr,hH,hgt])
    · simp
  | succ k =>
    have hle:¬ (m < (i:Int)):=by omega
    have hq8:((q:Nat):Int).tdiv 8 = ((q / 8:Nat):Int):=by rw [Int.tdiv_eq_ediv_of_nonneg (by omega)];omega
    have Vq:((q:Nat):Int) / 8 = ((q / 8:Nat):Int):=by omega
    by_cases hs:8 * b.length≤q
    · right
      refine ⟨?_,by simp [nxO]⟩
      unfold nxO oV
      rw [hq,if_pos hs]
      have hs8:(b.length:Int)≤((q / 8:Nat):Int):=by omega
      have w1:IntKind.i64.wrap ((q / 8:Nat):Int) = ((q / 8:Nat):Int):=wrap_i64 (by omega) (by omega)
      generalize q / 8 = q8 at *
      apply Run.bG
      · (refine ⟨0,?_⟩;simp (maxSteps:=2000000) -implicitDefEqProofs [-getElem?_pos,go_sem,eqV,ah,hfr,hH,hle,hq8,Vq,w1,hs8])
      · simp
    · have VX:i≤15:=by omega
      have hq0:q / 8 < b.length:=by omega
      obtain ⟨y,hget⟩:∃ y,b[q / 8]? = some y:=⟨_,List.getElem?_eq_getElem hq0⟩
      have hrb:je b q = ((y.toNat / 2 ^ (q % 8) % 2:Nat):Int):=by
        unfold je
        rw [List.getD_eq_getElem?_getD,hget];rfl
      have hr8:q % 8 < 8:=by omega
      have e2:((q:Nat):Int).tmod 8 = ((q % 8:Nat):Int):=by rw [Int.tmod_eq_emod_of_nonneg (by omega)];omega
      have e4:((q:Nat):Int) % 8 = ((q % 8:Nat):Int):=by omega
      have w1:IntKind.i64.wrap ((q / 8:Nat):Int) = ((q / 8:Nat):Int):=wrap_i64 (by omega) (by omega)
      have w2:IntKind.i64.wrap ((q % 8:Nat):Int) = ((q % 8:Nat):Int):=wrap_i64 (by omega) (by omega)
      have hs8:¬ (b.length:Int)≤((q / 8:Nat):Int):=by omega
      have w9:IntKind.i64.wrap ((q:Nat) + 1) = ((a + i:Nat):Int):=by rw [wrap_i64 (by omega) (by omega)];omega
      have hv:((y.toNat:Nat):Int).fdiv (2 ^ (q % 8)) = ((y.toNat / 2 ^ (q % 8):Nat):Int):=by
        rw [Int.fdiv_eq_ediv_of_nonneg _ (by exact Int.le_of_lt (Int.pow_pos (by omega)))];simp
      have hvl:y.toNat / 2 ^ (q % 8) < 256:=Nat.lt_of_le_of_lt (Nat.div_le_self _ _) y.toNat_lt
      have hm8:min (q % 8) IntKind.u8.bits = q % 8:=by simp [IntKind.bits];omega
      have abJ:min (q % 8) 8 = q % 8:=by omega
      obtain ⟨cn,rfl⟩:∃ cn:Nat,code = (cn:Int):=⟨code.toNat,by omega⟩
      have hp:(2:Int) ^ (i - 1)≤2 ^ 14:=by
        have:=Nat.pow_le_pow_right (n:=2) (by omega) (show i - 1≤14 by omega)
        exact_mod_cast this
      have hcn:cn < 16384:=by omega
      have hp2:(2:Int) ^ i = 2 * 2 ^ (i - 1):=by
        conv=>lhs;rw [show i = (i - 1) + 1 by omega]
        rw [Int.pow_succ];omega
      generalize q % 8 = r8 at *
      generalize anH:q / 8 = q8 at *
      generalize y.toNat / 2 ^ r8 = v at *
      obtain ⟨x,hx⟩:∃ x,x = v % 2:=⟨_,rfl⟩
      have hx1:x≤1:=by omega
      rw [← hx] at hrb
      have hr0:¬ ((r8:Int) < 0):=by omega
      have hb8:=SQ hvl
      have hU1:IntKind.u8.wrap ((v &&& 1:Nat):Int) = (x:Int):=by rw [Nat.and_one_is_mod,← hx,wrap_u8 (by omega) (by omega)]
      have hU2:IntKind.u8.wrap ((v:Int) % 2) = (x:Int):=by rw [wrap_u8 (by omega) (by omega)];omega
      have hX:IntKind.i64.wrap (x:Int) = (x:Int):=wrap_i64 (by omega) (by omega)
      have hXb:=bits_nat (v:=x) (by omega)
      obtain ⟨c2,hc2⟩:∃ c2,c2 = 2 * cn:=⟨_,rfl⟩
      have hC2:IntKind.i64.wrap ((cn:Int) * 2) = (c2:Int):=by rw [wrap_i64 (by omega) (by omega)];omega
      have Zm:=bits_nat (v:=c2) (by omega)
      have hmn:min 1 IntKind.i64.bits = 1:=by decide
      obtain ⟨c3,hc3⟩:∃ c3,c3 = 2 * cn + x:=⟨_,rfl⟩
      have hC3:IntKind.i64.wrap ((c2 ||| x:Nat):Int) = (c3:Int):=by rw [hc2,or_bit cn x hx1,← hc3,wrap_i64 (by omega) (by omega)]
      have hAnd:IntKind.u8.wrap ((AM.bits .u8 (v:Int) &&& AM.bits .u8 1).toNat:Nat) = (x:Int):=by rw [BitVec.toNat_and,hb8,BI,hU1]
      have hOr:IntKind.i64.wrap ((AM.bits .i64 (c2:Int) ||| AM.bits .i64 (x:Int)).toNat:Nat) = (c3:Int):=by rw [BitVec.toNat_or,Zm,hXb,hC3]
      simp only [go_sem] at hAnd hOr
      have hcode:2 * (cn:Int) + je b q = (c3:Int):=by rw [hrb];omega
      have hdec:oV l n f b a (k + 1) i (cn:Int) = if 0≤(c3:Int) - f.getD i 0∧(c3:Int) - f.getD i 0 < n.getD i 0 then
          (((dF i l 0).getD ((c3:Int) - f.getD i 0).toNat 0,(i:Int),0),a + i) else oV l n f b a k (i + 1) (c3:Int):=by
        conv=>lhs;unfold oV
        rw [hq,if_neg hs,hcode]
      have hfi:=hfv i (by omega)
      have hni:=hnv i (by omega)
      have hfg:f[i]? = some (f.getD i 0):=by rw [List.getD_eq_getElem?_getD,List.getElem?_eq_getElem (by omega)];rfl
      have hng:n[i]? = some (n.getD i 0):=by rw [List.getD_eq_getElem?_getD,List.getElem?_eq_getElem (by omega)];rfl
      have VY:(i:Int) < 17:=by omega
      have QW:(i:Int) < 16:=by omega
      have hK:IntKind.i64.wrap ((c3:Int) - f.getD i 0) = (c3:Int) - f.getD i 0:=wrap_i64 (by omega) (by omega)
      have hi1:IntKind.i64.wrap ((i:Int) + 1) = (i:Int) + 1:=wrap_i64 (by omega) (by omega)
      have aiM:(c3:Int) < 2 ^ i:=by omega
      generalize f.getD i 0 = fi at *
      generalize anI:n.getD i 0 = ni at *
      by_cases hhit:0≤(c3:Int) - fi∧(c3:Int) - fi < ni
      · right
        refine ⟨?_,by simp [nxO]⟩
        rw [hdec,if_pos hhit]
        obtain ⟨hk0,hkn⟩:=hhit
        have hin:(i:Int) ∈ l:=by
          have h1:(dF i l 0).length = l.count (i:Int):=wK l i 0
          unfold ct at hni
          exact List.count_pos_iff.1 (by omega)
        have hlen:((dF i l 0).length:Int) = ni:=by
          rw [wK,hni];rfl
        have hpr:(i:Int) ∈ aV l:=by
          unfold aV
          rw [List.mem_filter]
          exact ⟨List.mem_of_getElem? (Fq (by omega)),by simpa using hin⟩
        have hA:A[i]? = some (.sl (6 + (aV l).idxOf (i:Int)) 0 (dF i l 0).length 0):=by
          rw [← hSA,List.getElem?_map,Fq (by omega)]
          simp [syV,hpr]
        have hAl:A.length = 16:=by rw [← hSA];simp [jX]
        have hRr:R[(aV l).idxOf (i:Int)]? = some (kK (dF i l 0) 0 t):=by
          rw [← hRA,List.getElem?_map,List.getElem?_eq_getElem (List.idxOf_lt_length_of_mem hpr)]
          simp
        generalize (aV l).idxOf (i:Int) = j at *
        have hrow:∀ a:Int,(nH c b a m n f l 0 t t t)[6 + j]? = some (kK (dF i l 0) 0 t):=by
          intro a
          rw [hH a,Nat.add_comm]
          simpa using hRr
        have hkI:((c3:Int) - fi).toNat < (dF i l 0).length:=by omega
        obtain ⟨z,hz⟩:∃ z,(dF i l 0)[((c3:Int) - fi).toNat]? = some z:=⟨_,List.getElem?_eq_getElem hkI⟩
        have hzd:(dF i l 0).getD ((c3:Int) - fi).toNat 0 = z:=by rw [List.getD_eq_getElem?_getD,hz];rfl
        rw [hzd]
        have hkl:(c3:Int) - fi < ((dF i l 0).length:Int):=by omega
        unfold nxO
        generalize dF i l 0 = ps at *
        generalize 6 + j = o at *
        simp only [hH] at hrow
        unfold kK at hrow
        generalize hkk:(c3:Int) - fi = kk at hk0 hkn hz hkl
        have hK2:IntKind.i64.wrap ((c3:Int) - fi) = kk:=by rw [hK,hkk]
        apply Run.bG
        · apply Run.block
          · apply Run.seq
            · (refine ⟨0,?_⟩;conv=>lhs;simp (maxSteps:=2000000) -implicitDefEqProofs [-getElem?_pos,go_sem,eqV,ah,hfr,hH,hle])
            apply Run.seq
            · (refine ⟨0,?_⟩;conv=>lhs;simp (maxSteps:=2000000) -implicitDefEqProofs [-getElem?_pos,go_sem,eqV,ah,hq8,Vq,w1,hs8])
            apply Run.seq
            · (refine ⟨0,?_⟩;conv=>lhs;simp (maxSteps:=2000000) -implicitDefEqProofs [-getElem?_pos,go_sem,eqV,ah,hq8,Vq,w1,hs8,hget,e2,e4,w2,hr0,hm8,abJ,hv,hb8,BI,hAnd,hOr,hU1,hU2,hX,hmn,hC2,Zm,hXb,hC3,hq0])
            apply Run.seq
            · (refine ⟨0,?_⟩;conv=>lhs;simp (maxSteps:=2000000) -implicitDefEqProofs [-getElem?_pos,go_sem,eqV,ah,w9])
            apply Run.seq
            · (refine ⟨0,?_⟩;conv=>lhs;simp (maxSteps:=2000000) -implicitDefEqProofs [-getElem?_pos,go_sem,eqV,ah,VY,hfg,hK2,hf])
            (refine ⟨0,?_⟩;simp (maxSteps:=2000000) -implicitDefEqProofs [-getElem?_pos,go_sem,eqV,ah,hH,hk0,hkn,QW,hng,hn,hA,hAl,hrow,hz,hkl])
          · simp
        · simp
      · left
        refine ⟨(k,i + 1,(c3:Int)),⟨by simp;omega,by simp,by simp,by simpa using aiM,.inr (by simp;omega)⟩,?_,by rw [hdec,if_neg hhit],by simp⟩
        simp only [aiL]
        apply Run.seq (fr':=XC (c3:Int) i ++ [(11,.int .i64 ((c3:Int) - fi)),(50,.bool false)]) (H':=nH c b ((a + i:Nat):Int) m n f l 0 t t t)
        · apply Run.block
          · apply Run.seq
            · (refine ⟨0,?_⟩;conv=>lhs;simp (maxSteps:=2000000) -implicitDefEqProofs [-getElem?_pos,go_sem,eqV,ah,hfr,hH,hle])
            apply Run.seq
            · (refine ⟨0,?_⟩;conv=>lhs;simp (maxSteps:=2000000) -implicitDefEqProofs [-getElem?_pos,go_sem,eqV,ah,hq8,Vq,w1,hs8])
            apply Run.seq
            · (refine ⟨0,?_⟩;conv=>lhs;simp (maxSteps:=2000000) -implicitDefEqProofs [-getElem?_pos,go_sem,eqV,ah,hq8,Vq,w1,hs8,hget,e2,e4,w2,hr0,hm8,abJ,hv,hb8,BI,hAnd,hOr,hU1,hU2,hX,hmn,hC2,Zm,hXb,hC3,hq0])
            apply Run.seq
            · (refine ⟨0,?_⟩;conv=>lhs;simp (maxSteps:=2000000) -implicitDefEqProofs [-getElem?_pos,go_sem,eqV,ah,w9])
            apply Run.seq
            · (refine ⟨0,?_⟩;conv=>lhs;simp (maxSteps:=2000000) -implicitDefEqProofs [-getElem?_pos,go_sem,eqV,ah,VY,hfg,hK,hf])
            by_cases hk0:0≤(c3:Int) - fi
            · have hkn:¬ ((c3:Int) - fi < ni):=fun z=>hhit ⟨hk0,z⟩
              generalize (c3:Int) - fi = kk at *
              (refine ⟨0,?_⟩;simp (maxSteps:=2000000) -implicitDefEqProofs [-getElem?_pos,go_sem,eqV,ah,hfr,hH,hk0,hkn,QW,hng,hn])
            · generalize (c3:Int) - fi = kk at *
              (refine ⟨0,?_⟩;simp (maxSteps:=2000000) -implicitDefEqProofs [-getElem?_pos,go_sem,eqV,ah,hfr,hH,hk0])
          · simp
        · (refine ⟨0,?_⟩;simp (maxSteps:=2000000) -implicitDefEqProofs [-getElem?_pos,go_sem,eqV,ah,hfr,hH,hi1])
end Go.Proofs.Yteblpjhkgdpchaa
namespace Go.Proofs.Yteblpjhkgdpchaa
open Go.AM
theorem yS (H:AM.Heap):∀ (L acc:List Nat) (n:Nat),L.length < n→(∀ o ∈ L,∃ ob,H[o]? = some (some ob)∧ob.ids = false)→L.Nodup→(∀ o ∈ L,o ∉ acc)→reach H n L acc = acc ++ L
  | [],acc,n,_,_,_,_=>by rw [tJ];simp
  | o :: r,acc,0,h,_,_,_=>by simp at h
  | o :: r,acc,n + 1,h,h1,h2,h3=>by
    obtain ⟨ob,ho,hob⟩:=h1 o (by simp)
    have hc:acc.contains o = false:=by
      rw [Bool.eq_false_iff]
      intro z
      exact h3 o (by simp) (List.contains_iff_mem.1 z)
    rw [reach,hc]
    simp only [Bool.false_eq_true,if_false,ho,hob,List.nil_append]
    rw [yS H r (acc ++ [o]) n (by simpa using h) (fun a ha=>h1 a (List.mem_cons_of_mem _ ha)) (List.nodup_cons.1 h2).2 (fun a ha z=>by
      rcases List.mem_append.1 z with z | z
      · exact h3 a (List.mem_cons_of_mem _ ha) z
      · simp only [List.mem_singleton] at z
        subst z
        exact (List.nodup_cons.1 h2).1 ha)]
    simp
theorem JK (d tn:Nat) (ks l:List Int) (gr:Bool):∀ zs:List Int,aB (zs.map (syV d tn ks l gr)) = (zs.filter fun x=>decide (x ∈ ks)).map fun x=>d + ks.idxOf x
  | []=>rfl
  | z :: r=>by
    simp only [List.map_cons,aB,JK d tn ks l gr r,List.filter_cons]
    by_cases h:z ∈ ks
    · simp [syV,h,ids]
    · simp [syV,h,ids]
theorem Fv (d tn:Nat) (ks l:List Int) (gr:Bool):∀ zs:List Int,∀ t ∈ aU (zs.map (syV d tn ks l gr)),t = tn
  | [],t,h=>by simp [aU] at h
  | z :: r,t,h=>by
    simp only [List.map_cons,aU,List.mem_append] at h
    rcases h with h | h
    · by_cases hz:z ∈ ks
      · simp [syV,hz,tags] at h
      · simpa [syV,hz,tags] using h
    · exact Fv d tn ks l gr r t h
theorem Ib {g:Int→Nat}:∀ (zs:List Int) (x:Int) (k:Nat),x ∈ zs→(∀ y ∈ zs,g y = g x→y = x)→AM.idxOf (zs.map g) (g x) k = some (k + zs.idxOf x)
  | [],x,k,h,_=>by simp at h
  | z :: r,x,k,h,hg=>by
    simp only [List.map_cons,AM.idxOf]
    by_cases e:z = x
    · subst e;simp
    · have e2:¬ g z = g x:=fun w=>e (hg z (by simp) w)
      rw [if_neg e2,Ib r x (k + 1) ((List.mem_cons.1 h).resolve_left fun w=>e w.symm) (fun y hy=>hg y (List.mem_cons_of_mem _ hy)),List.idxOf_cons]
      have e3:(z == x) = false:=by simpa using e
      rw [e3]
      simp
      omega
theorem Ic:∀ (P L:List Nat) (o k:Nat),o ∉ P→AM.idxOf (P ++ L) o k = AM.idxOf L o (k + P.length)
  | [],L,o,k,_=>rfl
  | p :: P,L,o,k,h=>by
    simp only [List.mem_cons,not_or] at h
    simp only [List.cons_append,AM.idxOf,List.length_cons]
    rw [if_neg (fun z=>h.1 z.symm),Ic P L o (k + 1) h.2]
    congr 1;omega
theorem Fz:∀ l:List Nat,strike l [] = []
  | []=>rfl
  | o :: r=>by simp only [strike,upd,List.set_nil];exact Fz r
theorem BJ {l:List Int} (hf:fine l = true) (x:Int):x ∈ aV l ↔ x ∈ l:=by
  unfold aV
  rw [List.mem_filter]
  constructor
  · exact fun h=>by simpa using h.2
  · intro h
    have hx:0≤x∧x≤15:=by
      have:=List.all_eq_true.1 hf x h
      simpa using this
    exact ⟨List.mem_of_getElem? (DC hx),by simpa using h⟩
theorem CQ (l:List Int):(aV l).Nodup:=List.Pairwise.filter _ (by decide)
theorem BK (l:List Int):(aV l).length≤16:=Nat.le_trans (List.length_filter_le _ _) (by decide)
theorem Vr {ks l:List Int} (hk:JJ ks l):(jX.filter fun x=>decide (x ∈ ks)) = aV l:=by
  unfold aV
  refine List.filter_congr fun x _=>?_
  simp [hk.2 x]
theorem iD (ρ:Nat→Nat→Option (Nat × Nat)) (τ:Nat→Nat) (g:Int→AV):∀ zs:List Int,bg ρ τ (zs.map g) = zs.map fun x=>ren ρ τ (g x)
  | []=>rfl
  | z :: r=>by simp only [List.map_cons,bg,iD ρ τ g r]
end Go.Proofs.Yteblpjhkgdpchaa
