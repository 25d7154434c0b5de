/- J2 to DU: texts of this claim, one behind the other; what each shows stands at its head. -/
import Derived.Test.YteblpjhkgdpchaaAm4
import Derived.Test.YteblpjhkgdpchaaMg10
set_option linter.unusedSimpArgs false
set_option linter.unusedVariables false
set_option maxRecDepth 100000
set_option maxHeartbeats 8000000
namespace Go.Proofs.Yteblpjhkgdpchaa
open Go.AM
section
variable {c:Nat} {b:List UInt8} {mo:Int} {t:Nat} {H:AM.Heap} {o:Nat} {oa:Option Nat} {s:Is}
def TW (v:AV) (l:Bool):AM.Frame:=[(0,.ptr 0 0 0 0),(3,v),(4,.bool l)]
theorem aaj {m:Nat} {v:AV} {l:Bool} {E:AM.Heap} (h:IrV c b mo t E 0 oa s):∃ code,((Try.f29.body).bind (aI [1,1,0,1,0,0,0,0])) = some code∧Run X (evT X) 29 m code (TW v l) E ⟨.normal,[(0,.ptr 0 0 0 0),(3,v),(17,.bool (!l && (s.e == 0)))],E⟩:=by
  refine ⟨_,rfl,?_⟩
  obtain ⟨⟨vo,τ1,τ,a1,a2,h0,ho⟩,hne⟩:=id h
  simp only [bF] at h0
  simp only [TW]
  cases l
  · by_cases he:s.e = 0
    · rw [he] at h0 ⊢
      (refine ⟨0,?_⟩;simp (maxSteps:=2000000) -implicitDefEqProofs [-getElem?_pos,go_sem,eqV,ah,h0])
    · have heb:(s.e == 0) = false:=by simpa using he
      (refine ⟨0,?_⟩;simp (maxSteps:=2000000) -implicitDefEqProofs [-getElem?_pos,go_sem,eqV,ah,h0,he,heb])
  · (refine ⟨0,?_⟩;simp (maxSteps:=2000000) -implicitDefEqProofs [-getElem?_pos,go_sem,eqV,ah])
theorem TY {n:Nat}:∀ {k k':Nat} {o o':List UInt8} {x:Int},gV b n k o = .ok x k' o'→k' = k + n∧o' = o:=by
  induction n with
  | zero =>
    intro k k' o o' x h
    obtain ⟨_,rfl,rfl⟩:=iy h
    exact ⟨rfl,rfl⟩
  | succ n ih =>
    intro k k' o o' x h
    unfold gV at h
    obtain ⟨a,k1,o1,h1,h2⟩:=iZ h
    obtain ⟨c,k2,o2,h3,h4⟩:=iZ h2
    obtain ⟨rfl,rfl⟩:=ih h1
    unfold vS at h3
    split at h3
    · obtain ⟨_,rfl,rfl⟩:=iy h3
      obtain ⟨_,rfl,rfl⟩:=iy h4
      exact ⟨by omega,rfl⟩
    · cases h3
theorem YD {F k k1:Nat} {x:Blk} {o1 o2:List UInt8} (h:NM b mo F k o1 = .ok x k1 o2) (hk:k≤8 * b.length):k + 3≤k1:=by
  unfold NM at h
  obtain ⟨l,k2,o3,h1,h2⟩:=iZ h
  obtain ⟨t,k3,o4,h3,h4⟩:=iZ h2
  obtain ⟨u,k4,o5,h5,h6⟩:=iZ h4
  have e1:=(TY h1).1
  have e2:=(TY h3).1
  have u1:=(iP 1).up b mo _ _ _ _ _ h1 hk
  have u2:=(iP 2).up b mo _ _ _ _ _ h3 u1.2.1
  have u3:=(PG F _).up b mo _ _ _ _ _ h5 u2.2.1
  have h6':=h6
  injection h6' with e3 e4 e5
  have:=u3.1
  omega
theorem sO.done' {α β:Type} {m0:PM β} {m:PM α} {f:α→β} {s1:Is} (h:sO b mo m s1 m0 s f) (hs:fE b mo s1) (he:s1.e ≠ 0) (x:α) (y:β):fO b mo m0 s s1 y:=(h s1 x (fO.stop hs he)).any he
theorem Kz {m F:Nat} {E:AM.Heap} (h:IrV c b mo t E 0 oa s) (hs:fE b mo s) (hb:b.length≤100000) (hm:mo≤1000000) (he:s.e = 0) (hF:8 * b.length < F) (hF2:F≤1000000):∃ code,Try.f29.body = some code ∧
    aj (rF fun fr E'=>∃ s' oa' a g ob R L,ay fr 2 = .sl a 0 R.length g∧IrV c b mo t E' 0 oa' s'∧(∀ x,oa = some x→oa' = some x)∧E'[a]? = some (some ob)∧Rw (.pr 4 R) g ob∧a ≠ 0∧(∀ x,oa' = some x→a ≠ x)∧(∀ p ∈ R,ids p = []∧tags p = [])∧fO b mo (uY b mo F F) s s' L∧(s'.e = 0→R = L.map bkT)) X (evT X) 29 m code [(0,.ptr 0 0 0 0)] E:=by
  refine ⟨_,rfl,?_⟩
  have hE:bM X 68 = .pr 4 []:=by kernel_rfl
  apply aj.seq (fr':=[(0,.ptr 0 0 0 0)]) (H':=E ++ [some (⟨.pr 4 [],0,none,0,true,false,0⟩:AM.Obj)])
  · (refine ⟨0,?_⟩;simp (maxSteps:=2000000) -implicitDefEqProofs [-getElem?_pos,go_sem,eqV,ah,ak,rowOf,hE])
  have hV0:IrV c b mo t (E ++ [some (⟨.pr 4 [],0,none,0,true,false,0⟩:AM.Obj)]) 0 oa s:=h.cat
  generalize E ++ [some (⟨.pr 4 [],0,none,0,true,false,0⟩:AM.Obj)] = E0 at *
  apply aj.seq (fr':=[(0,.ptr 0 0 0 0),(3,.sl E0.length 0 0 0)]) (H':=E0 ++ [some (⟨.pr 4 [],0,none,0,true,false,0⟩:AM.Obj)])
  · (refine ⟨0,?_⟩;simp (maxSteps:=2000000) -implicitDefEqProofs [-getElem?_pos,go_sem,eqV,ah,ak,rowOf,hE])
  have hV1:IrV c b mo t (E0 ++ [some (⟨.pr 4 [],0,none,0,true,false,0⟩:AM.Obj)]) 0 oa s:=hV0.cat
  have hL1:LkV (E0 ++ [some (⟨.pr 4 [],0,none,0,true,false,0⟩:AM.Obj)]) (some E0.length) (.sl E0.length 0 0 0) []:=⟨by simp,0,⟨.pr 4 [],0,none,0,true,false,0⟩,rfl,by simp,⟨rfl,rfl,rfl,rfl,rfl⟩⟩
  have hlt:=hV0.lt
  generalize E0 ++ [some (⟨.pr 4 [],0,none,0,true,false,0⟩:AM.Obj)] = E1 at *
  apply aj.assoc
  apply aj.seq (fr':=TW (.sl E0.length 0 0 0) false) (H':=E1)
  · simp only [TW]
    (refine ⟨0,?_⟩;simp (maxSteps:=2000000) -implicitDefEqProofs [-getElem?_pos,go_sem,eqV,ah,ak])
  have hz:E0.length ≠ 0:=by omega
  have hzo:∀ a,oa = some a→E0.length ≠ a:=fun a ha=>by have:=hlt.2 a ha;omega
  generalize E0.length = z at *
  apply aj.andThen (P:=fun fr E'=>∃ s' oa' v R L,ay fr 3 = v∧IrV c b mo t E' 0 oa' s'∧(∀ x,oa = some x→oa' = some x)∧LkV E' (some z) v R∧(∀ x,oa' = some x→z ≠ x)∧fO b mo (uY b mo F F) s s' L∧(s'.e = 0→R = L.map bkT))
  · apply aj.block
    refine aj.kE (I:=fun q fr E'=>∃ oa' s' v R done l,fr = TW v l∧IrV c b mo t E' 0 oa' s'∧fE b mo s'∧(∀ x,oa = some x→oa' = some x)∧LkV E' (some z) v R∧(∀ x,oa' = some x→z ≠ x)∧(s'.e = 0→R = done.map bkT)∧R.length + q≤F∧(s'.e = 0→8 * b.length < s'.k + q)∧((l = false∧sO b mo (uY b mo F q) s' (uY b mo F F) s (fun u=>done ++ u))∨(l = true∧fO b mo (uY b mo F F) s s' done))) ?_ (k:=F) ⟨oa,s,_,[],[],false,rfl,hV1,hs,fun _ h=>h,hL1,hzo,fun _=>rfl,by simp,fun _=>by omega,.inl ⟨rfl,fun _ _ h=>h⟩⟩
    rintro q fr E' ⟨oa',s',v,R,done,l,rfl,hV,hs',hm',hL,hoff,hR,hlen,hf,hC⟩
    apply aj.assoc
    apply aj.seq (piece (aaj (l:=l) hV) _ rfl)
    by_cases hgo:(!l && (s'.e == 0)) = true
    · obtain ⟨hl,he'⟩:l = false∧s'.e = 0:=by simpa using hgo
      subst hl
      rw [hgo]
      have hC':=hC.elim (fun h=>h.2) (fun h=>absurd h.1 (by simp))
      have h1:=hf he'
      have h2:=hs'.1
      obtain ⟨q,rfl⟩:∃ q',q = q' + 1:=⟨q - 1,by omega⟩
      apply aj.seq (fr':=[(0,.ptr 0 0 0 0),(3,v),(17,.bool true)]) (H':=E')
      · refine ⟨0,?_⟩
        simp (maxSteps:=2000000) -implicitDefEqProofs [-getElem?_pos,go_sem,eqV,ah]
      refine aj.mono (piece (Wy (m:=m) hV hs' hb hm he' hF hL (by omega) (by simpa using hz) (fun a ha=>by simpa using hoff a ha)) _ rfl) ?_
      rintro out ⟨oa2,s2,la',v',R',x,v1,v2,v3,v4,v5,v6,v7,v9,v8⟩
      have hla:la' = some z:=v9 z rfl
      subst hla
      have hfv:s2.e = 0→s'.k + 3≤s2.k:=fun h=>YD (v6.fine h).2 h2
      rcases v8 with ⟨w1,w2,w3⟩ | ⟨w1,w2,w3⟩
      · refine .inr ⟨by rw [w1];simp,w1,s2,oa2,v',R',[],w2,v1,fun a ha=>v2 a (hm' a ha),v3,fun a ha=>by simpa using v5 a ha,?_,fun h=>absurd h w3⟩
        have hC2:sO b mo (if x.last = true then nJ [x] else dG (uY b mo F q) fun r=>nJ (x :: r)) s2 (uY b mo F F) s (fun u=>done ++ u):=hC'.step v6
        exact hC2.done' v6.1 w3 [] _
      · have hC2:sO b mo (if x.last = true then nJ [x] else dG (uY b mo F q) fun r=>nJ (x :: r)) s2 (uY b mo F F) s (fun u=>done ++ u):=hC'.step v6
        refine .inl ⟨w1,q,by omega,oa2,s2,v',R',done ++ [x],x.last,w2,v1,v6.1,fun a ha=>v2 a (hm' a ha),v3,fun a ha=>by simpa using v5 a ha,fun h=>?_,by omega,fun h=>?_,?_⟩
        · rw [w3 h,hR he']
          simp
        · have:=hfv h
          omega
        · cases hl:x.last with
          | true =>
            rw [if_pos hl] at hC2
            exact .inr ⟨rfl,hC2 _ [x] (bV.ret (d:=[x]) v6.1 fun _=>rfl).toE⟩
          | false =>
            rw [if_neg (by simp [hl])] at hC2
            refine .inl ⟨rfl,fun s3 y hy=>?_⟩
            have:=hC2 s3 (x :: y) (hy.bnd (f:=fun r=>nJ (x :: r)) (bV.ret (d:=x :: y) hy.1 fun _=>rfl).toE)
            simpa using this
    · refine aj.of (o:=⟨.exit 0,[(0,.ptr 0 0 0 0),(3,v),(17,.bool (!l && (s'.e == 0)))],E'⟩) ?_ (.inr ⟨by simp,rfl,s',oa',v,R,done,by simp [ay],hV,hm',hL,hoff,?_,hR⟩)
      · rw [show (!l && (s'.e == 0)) = false by simpa using hgo]
        refine ⟨0,?_⟩
        simp (maxSteps:=2000000) -implicitDefEqProofs [-getElem?_pos,go_sem,eqV,ah]
      · rcases hC with ⟨hl,hC⟩ | ⟨_,hC⟩
        · subst hl
          have hne:s'.e ≠ 0:=by simpa using hgo
          exact hC.done' hs' hne [] _
        · exact hC
  · rintro fr E' ⟨s',oa',v,R,L,hv,hV,hm',hL,hoff,hrun,hR⟩
    obtain ⟨hfl,g,ob,rfl,ho,hw⟩:=hL
    refine aj.of (o:=⟨.ret,[(2,.sl z 0 R.length g)],E'⟩) ?_ ⟨rfl,s',oa',z,g,ob,R,L,rfl,hV,hm',ho,hw,hz,hoff,hfl,hrun,hR⟩
    refine ⟨0,?_⟩
    generalize R.length = N at *
    simp (maxSteps:=2000000) -implicitDefEqProofs [-getElem?_pos,go_sem,eqV,ah,hv,ak]
end
end Go.Proofs.Yteblpjhkgdpchaa
namespace Go.Proofs.Yteblpjhkgdpchaa
open Go.AM
theorem Gw:∀ {R:List AV},(∀ p ∈ R,ids p = []∧tags p = [])→aB R = []∧aU R = []
  | [],_=>⟨rfl,rfl⟩
  | p :: R,h=>by
    obtain ⟨h1,h2⟩:=h p (List.mem_cons_self ..)
    obtain ⟨h3,h4⟩:=Gw fun q hq=>h q (List.mem_cons_of_mem _ hq)
    exact ⟨by simp [aB,h1,h3],by simp [aU,h2,h4]⟩
section
variable {c:Nat} {b:List UInt8} {mo:Int} {t:Nat} {H:AM.Heap} {o:Nat} {oa:Option Nat} {s:Is}
theorem Rj {F:Nat} (h:IrV c b mo t H o oa s) (hs:fE b mo s) (hb:b.length≤100000) (hm:mo≤1000000) (he:s.e = 0) (hF:8 * b.length < F) (hF2:F≤1000000) :
    ∃ H' oa' s' a g τ ob R L,evT X 29 [.ptr o 0 0 0] H = some (.sl a 0 R.length g,H')∧IrV c b mo t H' o oa' s'∧fO b mo (uY b mo F F) s s' L∧(s'.e = 0→R = L.map bkT)∧Kpt H H' o oa oa' ∧
      (τ = 0∨τ = t)∧H'[a]? = some (some ob)∧RwT (.pr 4 R) g τ ob∧(∀ p ∈ R,ids p = []∧tags p = [])∧H.length≤a∧a ≠ o∧∀ y,oa' = some y→a ≠ y:=by
  obtain ⟨code,hc⟩:∃ code,Try.f29.body = some code:=⟨_,rfl⟩
  obtain ⟨H',oa',s',w0,ex,ps,τf,hE,hτ,hV,hR,hnew,hnd,⟨R,L,rfl,rfl,hrun,hL,hfl⟩,hk⟩:=AU (f:=29) (n:=2) (xs:=[]) (ys:=[]) (Q:=fun s' w0 ps=>∃ R L,ps = [.pr 4 R]∧w0 = .sl 0 0 R.length 0∧fO b mo (uY b mo F F) s s' L∧(s'.e = 0→R = L.map bkT)∧∀ p ∈ R,ids p = []∧tags p = [])
    Try.func29 hc rfl h (fun π K hπ=>fD.nil) rfl rfl (by simp [dM]) (by
      intro m E oa1 _ _ _ hE
      obtain ⟨oN,hc2,ht⟩:=Kz (m:=m) (F:=F) hE hs hb hm he hF hF2
      refine ⟨oN,hc2,?_⟩
      rw [aak]
      refine ht.mono ?_
      rintro out ⟨ho1,s',oa',a,g,ob,R,L,q1,q2,q3,q4,q5,q6,q7,q8,q9,q10⟩
      refine ⟨.inr ho1,s',oa',[.sl a 0 R.length g],[(a,g)],[.pr 4 R],.sl 0 0 R.length 0,?_,q2,q3,⟨⟨0,ob,.inl rfl,q4,⟨q5.p,q5.g,q5.row,q5.ids,q5.tg⟩⟩,trivial⟩,?_,?_,by simp [ids],by simp [ids],by simp [ids],by simp [tags],by simp [aO,ren,eu],R,L,rfl,rfl,q9,q10,q8⟩
      · show aQ X out.fr out.H [.tmp 2] = _
        simp [aQ,q1]
      · intro p hp
        simp at hp
        subst hp
        obtain ⟨f1,f2⟩:=Gw q8
        exact ⟨by simp [ids,f1],by simp [tags,f2]⟩
      · have hne:=q2.ne
        cases oa' with
        | none=>simp;omega
        | some y =>
          have h1:=hne y rfl
          have h2:=q7 y rfl
          simp;omega)
  match ex,hR with
  | [(x,g)],hR =>
    obtain ⟨⟨τ4,ob,h4,h5,h6⟩,_⟩:=hR
    refine ⟨H',oa',s',x,g,τ4,ob,R,L,by simpa [ren,eu] using hE,hV,hrun,hL,hk,h4,h5,h6,hfl,hnew (x,g) (by simp),?_,?_⟩
    · intro e
      subst e
      simp at hnd
    · intro w hw e
      subst hw e
      simp at hnd
end
end Go.Proofs.Yteblpjhkgdpchaa
namespace Go.Proofs.Yteblpjhkgdpchaa
open Go.AM
def CY (H:AM.Heap) (v:AV) (l:List UInt8):Prop :=
  (∃ o g τ ob,v = .sl o 0 l.length g∧H[o]? = some (some ob)∧RwT (.pb l) g τ ob)∨(l = []∧∃ τ,v = .ro 0 .pn τ)
def Ua (t:Nat) (H:AM.Heap) (v:AV) (l:List UInt8):Prop :=
  (∃ o g τ ob,(τ = 0∨τ = t)∧v = .sl o 0 l.length g∧H[o]? = some (some ob)∧RwT (.pb l) g τ ob)∨(l = []∧v = .ro 0 .pn t)
theorem Ua.v {t:Nat} {H:AM.Heap} {v:AV} {l:List UInt8} (h:Ua t H v l):CY H v l:=by
  rcases h with ⟨o,g,τ,ob,_,rfl,h1,h2⟩ | ⟨rfl,rfl⟩
  · exact .inl ⟨o,g,τ,ob,rfl,h1,h2⟩
  · exact .inr ⟨rfl,t,rfl⟩
section
variable {c:Nat} {b:List UInt8} {mo:Int}
def YE (E:AM.Heap) (out:List UInt8) (v:AV):Prop:=(∃ o g τ ob,(τ = 0∨τ = 1)∧v = .sl o 0 out.length g∧E[o]? = some (some ob)∧RwT (.pb out) g τ ob)∨(out = []∧v = .ro 0 .pn 1)
theorem emB:bM X 5 = .pb []:=by kernel_rfl
theorem YF {m:Nat} {E:AM.Heap} {oa:Option Nat} {s:Is} (h:IrV c b mo 1 E 1 oa s) (hb:b.length≤100000) (hs:fE b mo s):∃ v E',YE E' s.o v∧∃ code,((Try.f21.body).bind (aI [1,1,1,1,1,0])) = some code ∧
    Run X (evT X) 21 m code [(7,.ptr 1 0 0 0),(20,.bool false)] E ⟨.normal,[(4,v),(5,.int .i64 ((s.k + 7) / 8:Nat)),(6,.int .i64 0)],E'⟩:=by
  have hk:=hs.1
  obtain ⟨⟨vo,τ1,τ,a1,a2,h0,ho⟩,hne⟩:=id h
  have w1:IntKind.i64.wrap ((s.k:Int) + 7) = ((s.k + 7:Nat):Int):=by rw [wrap_i64 (by omega) (by omega)];omega
  have w2:((s.k + 7:Nat):Int).tdiv 8 = (((s.k + 7) / 8:Nat):Int):=by rw [Int.tdiv_eq_ediv_of_nonneg (by omega)];omega
  have w2':((s.k + 7:Nat):Int) / 8 = (((s.k + 7) / 8:Nat):Int):=by omega
  have w3:IntKind.i64.wrap ((((s.k + 7) / 8:Nat):Int)) = (((s.k + 7) / 8:Nat):Int):=wrap_i64 (by omega) (by omega)
  simp only [bF] at h0
  generalize (s.k + 7) / 8 = k2 at *
  generalize s.k + 7 = k3 at *
  have hcase:(∃ a g τ2 ob,(τ2 = 0∨τ2 = 1)∧vo = .sl a 0 s.o.length g∧E[a]? = some (some ob)∧RwT (.pb s.o) g τ2 ob)∨(s.o = []∧vo = .ro 0 .pn 0)∨(s.o = []∧vo = .ro 0 .pn 1):=by
    cases oa with
    | none =>
      obtain ⟨h1,τ2,hτ2,rfl⟩:=ho
      rcases hτ2 with rfl | rfl
      · exact .inr (.inl ⟨h1,rfl⟩)
      · exact .inr (.inr ⟨h1,rfl⟩)
    | some a =>
      obtain ⟨g,τ2,ob,hτ2,rfl,h3,h4⟩:=ho
      exact .inl ⟨a,g,τ2,ob,hτ2,rfl,h3,h4⟩
  have hE1:1 < E.length:=eP h0
  have hE2:¬ E.length = 1:=by omega
  rcases hcase with ⟨a,g,τ2,ob,hτ2,rfl,h3,h4⟩ | ⟨h1,rfl⟩ | ⟨h1,rfl⟩
  · refine ⟨.sl a 0 s.o.length g,E,.inl ⟨a,g,τ2,ob,hτ2,rfl,h3,h4⟩,_,rfl,?_⟩
    generalize s.o.length = N at *
    apply Run.dy (by simp) Ec (by simp)
    · (conv=>lhs;simp (maxSteps:=2000000) -implicitDefEqProofs [-getElem?_pos,go_sem,eqV,ah,jQ,out1,bI,lq,jq,pushes,jE,gK,touched,mentioned,iG,eX,bT,lu,Op.operands,ids,aB,aH,dR,dO,fQ,jR,h0,w1,w2,w2',w3,ak,iH])
    · refine jr (ps:=[(0,4),(1,4),(2,4),(3,4),(0,5),(1,5),(2,5),(3,5),(0,6),(1,6),(2,6),(3,6),(0,7),(1,7),(2,7),(3,7),(0,8),(1,8),(2,8),(3,8),(0,9),(1,9),(2,9),(3,9),(4,10),(5,10),(6,10),(7,10),(8,10),(9,10)]) (by kernel_rfl) ?_
      simp [uT,bear,disjoint,kT,Call.operands,aJ,ay,aB,ids,iH,hE1,hE2]
    · rfl
  · rw [h1]
    refine ⟨.sl E.length 0 0 0,E ++ [some (⟨.pb [],0,none,0,true,false,0⟩:AM.Obj)],.inl ⟨E.length,0,0,_,.inl rfl,rfl,List.getElem?_concat_length,⟨rfl,rfl,rfl,rfl,rfl⟩⟩,_,rfl,?_⟩
    have hc:(E ++ [some (⟨.pb [],0,none,0,true,false,0⟩:AM.Obj)])[1]? = E[1]?:=List.getElem?_append_left hE1
    apply Run.dy (by simp) Ec (by simp)
    · (conv=>lhs;simp (maxSteps:=2000000) -implicitDefEqProofs [-getElem?_pos,go_sem,eqV,ah,jQ,out1,bI,lq,jq,pushes,jE,gK,touched,mentioned,iG,eX,bT,lu,Op.operands,ids,aB,aH,dR,dO,fQ,jR,h0,hc,w1,w2,w2',w3,ak,iH,rowOf,emB])
    · refine jr (ps:=[(0,4),(1,4),(2,4),(3,4),(0,5),(1,5),(2,5),(3,5),(0,6),(1,6),(2,6),(3,6),(0,7),(1,7),(2,7),(3,7),(0,8),(1,8),(2,8),(3,8),(0,9),(1,9),(2,9),(3,9),(4,10),(5,10),(6,10),(7,10),(8,10),(9,10)]) (by kernel_rfl) ?_
      simp [uT,bear,disjoint,kT,Call.operands,aJ,ay,aB,ids,iH,hE1,hE2]
    · rfl
  · refine ⟨.ro 0 .pn 1,E,.inr ⟨h1,rfl⟩,_,rfl,?_⟩
    apply Run.dy (by simp) Ec (by simp)
    · (conv=>lhs;simp (maxSteps:=2000000) -implicitDefEqProofs [-getElem?_pos,go_sem,eqV,ah,jQ,out1,bI,lq,jq,pushes,jE,gK,touched,mentioned,iG,eX,bT,lu,Op.operands,ids,aB,aH,dR,dO,fQ,jR,h0,w1,w2,w2',w3,ak,iH])
    · refine jr (ps:=[(0,4),(1,4),(2,4),(3,4),(0,5),(1,5),(2,5),(3,5),(0,6),(1,6),(2,6),(3,6),(0,7),(1,7),(2,7),(3,7),(0,8),(1,8),(2,8),(3,8),(0,9),(1,9),(2,9),(3,9),(4,10),(5,10),(6,10),(7,10),(8,10),(9,10)]) (by kernel_rfl) ?_
      simp [uT,bear,disjoint,kT,Call.operands,aJ,ay,aB,ids,iH,hE1,hE2]
    · rfl
theorem YG {m:Nat} {E:AM.Heap} {oa:Option Nat} {s:Is} (h:IrV c b mo 1 E 1 oa s):∃ E',YE E' [] (.sl E.length 0 0 0)∧∃ code,((Try.f21.body).bind (aI [1,1,1,1,0,1,0,0])) = some code ∧
    Run X (evT X) 21 m code [(7,.ptr 1 0 0 0),(20,.bool true)] E ⟨.normal,[(4,.sl E.length 0 0 0),(5,.int .i64 0),(6,.int .i64 s.e)],E'⟩:=by
  obtain ⟨⟨vo,τ1,τ,a1,a2,h0,ho⟩,hne⟩:=id h
  simp only [bF] at h0
  have hE1:1 < E.length:=eP h0
  have hE2:¬ E.length = 1:=by omega
  refine ⟨E ++ [some (⟨.pb [],0,none,0,true,false,0⟩:AM.Obj)],.inl ⟨E.length,0,0,_,.inl rfl,rfl,List.getElem?_concat_length,⟨rfl,rfl,rfl,rfl,rfl⟩⟩,_,rfl,?_⟩
  apply Run.dy (by simp) Ub (by simp)
  · (conv=>lhs;simp (maxSteps:=2000000) -implicitDefEqProofs [-getElem?_pos,go_sem,eqV,ah,jQ,out1,bI,lq,jq,pushes,jE,gK,touched,mentioned,iG,eX,bT,lu,Op.operands,ids,aB,aH,dR,dO,fQ,jR,h0,ak,iH,rowOf,emB])
  · refine jr (ps:=[(0,4),(1,4),(2,4),(3,4),(0,5),(1,5),(2,5),(3,5)]) (by kernel_rfl) ?_
    simp [uT,bear,disjoint,kT,Call.operands,aJ,ay,aB,ids,iH,hE1,hE2]
  · rfl
theorem aeC (c:Nat) (b:List UInt8) (mo:Int) (t:Nat):lU X 52 [(0,.ro c (.pb b) t),(3,.int .i64 mo)] = some (.agg (.pc [.ro c (.pb b) t,.int .i64 0,.ro 0 .pn 0,.int .i64 mo,.int .i64 0])):=by kernel_rfl
def aeD (b:List UInt8) (mo:Int) (F:Nat) (fr:AM.Frame) (H1:AM.Heap):Prop :=
  ∃ out n e v,J8 F b mo = (out,n,e)∧ay fr 4 = v∧ay fr 5 = .int .i64 n∧ay fr 6 = .int .i64 e∧YE H1 out v
theorem Iu {m F:Nat} (hb:b.length≤100000) (hm:mo≤1000000) (hm0:0≤mo) (hF:8 * b.length < F) (hF2:F≤1000000):∃ code,Try.f21.body = some code ∧
    aj (rF (aeD b mo F)) X (evT X) 21 m code [(0,.ro c (.pb b) 1),(1,.int .i64 mo)] []:=by
  refine ⟨_,rfl,?_⟩
  apply aj.seq (fr':=[(0,.ro c (.pb b) 1),(1,.int .i64 mo)]) (H':=[some (⟨.pb [],0,none,0,true,false,0⟩:AM.Obj)])
  · (refine ⟨0,?_⟩;simp (maxSteps:=2000000) -implicitDefEqProofs [-getElem?_pos,go_sem,eqV,ah,ak,rowOf,emB])
  apply aj.assoc
  apply aj.seq (fr':=[(0,.ro c (.pb b) 1),(1,.int .i64 mo),(9,.bool false)]) (H':=[some (⟨.pb [],0,none,0,true,false,0⟩:AM.Obj)])
  · have:¬ mo < 0:=by omega
    (refine ⟨0,?_⟩;simp (maxSteps:=2000000) -implicitDefEqProofs [-getElem?_pos,go_sem,eqV,ah,this])
  apply aj.seq (fr':=[(0,.ro c (.pb b) 1),(1,.int .i64 mo),(9,.bool false)]) (H':=[some (⟨.pb [],0,none,0,true,false,0⟩:AM.Obj)])
  · refine ⟨0,?_⟩
    simp (maxSteps:=2000000) -implicitDefEqProofs [-getElem?_pos,go_sem,eqV,ah]
  apply aj.seq (fr':=[(7,.ptr 1 0 0 0)]) (H':=[some (⟨.pb [],0,none,0,true,false,0⟩:AM.Obj),some (bF c b mo ⟨0,[],0⟩ (.ro 0 .pn 0) 1 0)])
  · simp only [bF]
    (refine ⟨0,?_⟩;simp (maxSteps:=2000000) -implicitDefEqProofs [-getElem?_pos,go_sem,eqV,ah,aeC,ak])
  have hV:IrV c b mo 1 [some (⟨.pb [],0,none,0,true,false,0⟩:AM.Obj),some (bF c b mo ⟨0,[],0⟩ (.ro 0 .pn 0) 1 0)] 1 none ⟨0,[],0⟩:=⟨⟨_,1,0,.inr rfl,.inl rfl,rfl,rfl,0,.inl rfl,rfl⟩,fun a h=>by cases h⟩
  generalize [some (⟨.pb [],0,none,0,true,false,0⟩:AM.Obj),some (bF c b mo ⟨0,[],0⟩ (.ro 0 .pn 0) 1 0)] = E0 at *
  obtain ⟨E1,oa1,s1,a,g,τ,ob,R,L,hE,hV1,hrun,_⟩:=Rj (F:=F) hV ⟨by simp,by simpa using hm0⟩ hb hm rfl hF hF2
  apply aj.seq (fr':=[(7,.ptr 1 0 0 0)]) (H':=E1)
  · generalize R.length = N at *
    (refine ⟨0,?_⟩;simp (maxSteps:=2000000) -implicitDefEqProofs [-getElem?_pos,go_sem,eqV,ah,hE])
  obtain ⟨⟨vo,τ1,τ,a1,a2,h0,ho⟩,hne⟩:=id hV1
  simp only [bF] at h0
  apply aj.assoc
  apply aj.seq (fr':=[(7,.ptr 1 0 0 0),(20,.bool (s1.e != 0))]) (H':=E1)
  · by_cases he:s1.e = 0
    · rw [he] at h0 ⊢
      (refine ⟨0,?_⟩;simp (maxSteps:=2000000) -implicitDefEqProofs [-getElem?_pos,go_sem,eqV,ah,h0])
    · have heb:(s1.e != 0) = true:=by simpa using he
      (refine ⟨0,?_⟩;simp (maxSteps:=2000000) -implicitDefEqProofs [-getElem?_pos,go_sem,eqV,ah,h0,he,heb])
  by_cases he:s1.e = 0
  · have hok:=(hrun.fine he).2
    simp only at hok
    rw [show (s1.e != 0) = false by simpa using he]
    apply aj.seq (fr':=[(7,.ptr 1 0 0 0),(20,.bool false)]) (H':=E1)
    · refine ⟨0,?_⟩
      simp (maxSteps:=2000000) -implicitDefEqProofs [-getElem?_pos,go_sem,eqV,ah]
    obtain ⟨v,E2,hv,hr⟩:=YF (m:=m) hV1 hb hrun.1
    apply aj.seq (piece hr _ rfl)
    refine aj.of (o:=⟨.ret,[(4,v),(5,.int .i64 ((s1.k + 7) / 8:Nat)),(6,.int .i64 0)],E2⟩) ⟨0,rfl⟩ ⟨rfl,s1.o,((s1.k + 7) / 8:Nat),0,v,?_,rfl,rfl,rfl,hv⟩
    unfold J8
    rw [if_neg (by omega),hok]
  · have h2:=hrun.2
    simp only [if_true] at h2
    rw [show (s1.e != 0) = true by simpa using he]
    obtain ⟨E2,hv,hr⟩:=YG (m:=m) hV1
    refine aj.Uc ?_ (fun o ho=>by rw [ho.1];simp)
    refine aj.KA (by simp [aJ,ay]) ?_
    apply aj.seq (piece hr _ rfl)
    refine aj.of (o:=⟨.ret,[(4,.sl E1.length 0 0 0),(5,.int .i64 0),(6,.int .i64 s1.e)],E2⟩) ⟨0,rfl⟩ ⟨rfl,[],0,s1.e,_,?_,rfl,rfl,rfl,hv⟩
    unfold J8
    rw [if_neg (by omega)]
    cases hb:uY b mo F F 0 [] with
    | ok x k o =>
      rw [hb] at h2
      obtain ⟨rfl,_⟩:=h2
      exact absurd rfl he
    | err e =>
      rw [hb] at h2
      rw [h2.1]
end
section
theorem KC {F:Nat} {H:AM.Heap} {a:AV} {b:List UInt8} {mo:Int} (ha:eG H a = some (.pb b)) (hb:b.length≤100000) (hm:mo≤1000000) (hm0:0≤mo) (hF:8 * b.length < F) (hF2:F≤1000000) :
    ∃ out n e v R,J8 F b mo = (out,n,e)∧evT X 21 [a,.int .i64 mo] H = some (.tup [v,.int .i64 n,.int .i64 e],H ++ R)∧Ua (Ny H a) (H ++ R) v out:=by
  have hl:aH X 21 H 0 [a,.int .i64 mo] = some ([.ro (tY H a) (.pb b) 1,.int .i64 mo],[⟨slO a,[Ny H a]⟩,⟨[],[]⟩]):=by
    have h1:=QY (k:=1) ha
    have hr:X.rw 21 0 = false:=rfl
    have hr1:X.rw 21 1 = false:=rfl
    have e2:aH X 21 H 1 [.int .i64 mo] = some ([.int .i64 mo],[⟨[],[]⟩]):=rfl
    rw [aH]
    simp only [hr,Nat.zero_add,h1,e2]
    exact fun _ _ _ _ h=>by cases h
  obtain ⟨code,hc,⟨out,⟨ho,l,n,e,v,h1,h2,h3,h4,h5⟩,hrun⟩⟩:=Iu (m:=0) (c:=tY H a) (b:=b) hb hm hm0 hF hF2
  have hres:aQ X out.fr out.H (Try.f21.results.toList) = some [v,.int .i64 n,.int .i64 e]:=by
    show aQ X out.fr out.H [.tmp 4,.tmp 5,.tmp 6] = _
    simp [aQ,h2,h3,h4]
  have hcall:aj (fun o=>o = out) X (evT X) 21 0 code (numbered 0 (coerce X [.ro (tY H a) (.pb b) 1,.int .i64 mo] (aF X 21))) []:=by
    rw [aal]
    exact ⟨out,rfl,hrun⟩
  rcases h5 with ⟨o,g,τ,ob,hτ,rfl,ho2,hw⟩ | ⟨rfl,rfl⟩
  · obtain ⟨τ',ob',q1,q3,q4⟩:=Ev1.newT (C:=X) (dL X) (tg0:=Ny H a) (bo:=slO a) (n:=l.length) (p:=.pb l) (rest:=[.int .i64 n,.int .i64 e]) Try.func21 hc hl rfl rfl (by simp [dM]) rfl rfl rfl rfl rfl (by simp) (hcall.mono fun x hx=>by
      subst hx
      exact ⟨ho,o,g,τ,ob,hτ,hres,ho2,hw⟩)
    exact ⟨l,n,e,_,[some ob'],h1,fH q1,.inl ⟨H.length,0,τ',ob',q4,rfl,List.getElem?_concat_length,q3⟩⟩
  · have q1:=Ev1.bQ (C:=X) (dL X) (tg0:=Ny H a) (bo:=slO a) (l:=[.ro 0 .pn 1,.int .i64 n,.int .i64 e]) Try.func21 hc hl rfl rfl (by simp [dM]) (hcall.mono fun x hx=>by
      subst hx
      exact ⟨ho,hres⟩) rfl (by simp [aO,fG,tags,aU]) rfl
    exact ⟨[],n,e,.ro 0 .pn (Ny H a),[],h1,by rw [List.append_nil];exact fH (by simpa [aO,fG,ren,bg] using q1),.inr ⟨rfl,rfl⟩⟩
theorem KD {F:Nat} {H:AM.Heap} {a:AV} {b:List UInt8} {mo:Int} (ha:eG H a = some (.pb b)) (hb:b.length≤100000) (hm:mo≤1000000) (hm0:0≤mo) (hF:8 * b.length < F) (hF2:F≤1000000) :
    ∃ out n e v R,J8 F b mo = (out,n,e)∧evT X 21 [a,.int .i64 mo] H = some (.tup [v,.int .i64 n,.int .i64 e],H ++ R)∧CY (H ++ R) v out:=by
  obtain ⟨out,n,e,v,R,h1,h2,h3⟩:=KC ha hb hm hm0 hF hF2
  exact ⟨out,n,e,v,R,h1,h2,h3.v⟩
end
end Go.Proofs.Yteblpjhkgdpchaa
namespace Go.Proofs.Yteblpjhkgdpchaa
open Go.AM
theorem CY.sl {H:AM.Heap} {v:AV} {l:List UInt8} (h:CY H v l) (hl:l ≠ []):∃ o g τ ob,v = .sl o 0 l.length g∧H[o]? = some (some ob)∧RwT (.pb l) g τ ob:=h.elim id fun h=>absurd h.1 hl
theorem Byt.YH {H:AM.Heap} {o g τ:Nat} {ob:AM.Obj} {l:List UInt8} (ho:H[o]? = some (some ob)) (h:RwT (.pb l) g τ ob):Byt H (.sl o 0 l.length g) l:=by
  have hlive:live H o g = some ob:=by simp [live,ho,h.g]
  refine ⟨if ob.z = 0∧AM.ah ob.p = 0 then 0 else 2,.pb l,.inl rfl,fun h0=>?_,fun t=>⟨⟨[o],[ob.tg]⟩,?_⟩⟩
  · split at h0
    · rename_i hz
      have:=hz.2
      rw [h.p] at this
      exact List.eq_nil_of_length_eq_zero this
    · cases h0
  · simp [dR,dO,hlive,h.ids,h.p,jv]
theorem CY.byt {H:AM.Heap} {v:AV} {l:List UInt8} (h:CY H v l):Byt H v l:=by
  rcases h with ⟨o,g,τ,ob,rfl,ho,hw⟩ | ⟨rfl,τ,rfl⟩
  · exact Byt.YH ho hw
  · exact Byt.ro (.inr ⟨rfl,rfl⟩) (fun _=>rfl)
theorem CY.asg {H:AM.Heap} {v:AV} {l:List UInt8} (h:CY H v l):∃ v' H',ak X H 28 v = (v',H')∧CY H' v' l∧H.length≤H'.length∧∀ j,j < H.length→H'[j]? = H[j]?:=by
  rcases h with ⟨o,g,τ,ob,rfl,ho,hw⟩ | ⟨rfl,τ,rfl⟩
  · exact ⟨_,H,rfl,.inl ⟨o,g,τ,ob,rfl,ho,hw⟩,Nat.le_refl _,fun _ _=>rfl⟩
  · by_cases h0:τ = 0
    · subst h0
      refine ⟨.sl H.length 0 0 0,H ++ [some (⟨.pb [],0,none,0,true,false,0⟩:AM.Obj)],?_,.inl ⟨H.length,0,0,⟨.pb [],0,none,0,true,false,0⟩,rfl,by simp,⟨rfl,rfl,rfl,rfl,rfl⟩⟩,by simp,fun j hj=>List.getElem?_append_left hj⟩
      simp [ak,rowOf,emB]
    · refine ⟨.ro 0 .pn τ,H,?_,.inr ⟨rfl,τ,rfl⟩,Nat.le_refl _,fun _ _=>rfl⟩
      simp [ak,h0]
theorem Ua.asg {t:Nat} {H:AM.Heap} {v:AV} {l:List UInt8} (h:Ua t H v l) (ht:t ≠ 0):ak X H 28 v = (v,H):=by
  rcases h with ⟨o,g,τ,ob,hτ,rfl,ho,hw⟩ | ⟨rfl,rfl⟩
  · rfl
  · simp [ak,ht]
theorem CY.keep {H H':AM.Heap} {v:AV} {l:List UInt8} (h:CY H v l) (hk:∀ j,j < H.length→H'[j]? = H[j]?):CY H' v l:=by
  rcases h with ⟨o,g,τ,ob,rfl,ho,hw⟩ | h
  · exact .inl ⟨o,g,τ,ob,rfl,by rw [hk o (eP ho)];exact ho,hw⟩
  · exact .inr h
theorem aeE (H:AM.Heap) (t:Nat) (k:IntKind) (n:Int):ak X H t (.int k n) = (.int k n,H):=rfl
end Go.Proofs.Yteblpjhkgdpchaa
namespace Go.Proofs.Yteblpjhkgdpchaa
open Go.AM
theorem WA {H:AM.Heap} {o g:Nat} {ob:AM.Obj} {l:List UInt8} (ho:H[o]? = some (some ob)) (hw:Rw (.pb l) g ob):eG H (.sl o 0 l.length g) = some (.pb l):=by
  simp only [eG,live,ho,hw.g,if_true,hw.ids,hw.p,jv]
  simp
theorem Ed:∀ (l:List Px) (o:List UInt8),(iL l o).2 ≠ 0→(iL l o).1 = []
  | [],o,h=>by unfold iL at h;simp at h
  | x :: r,o,h=>by
    unfold iL at h ⊢
    split
    · rfl
    · rename_i h1
      rw [if_neg h1] at h
      split
      · rename_i h2
        rw [if_pos h2] at h
        exact Ed r _ h
      · rename_i h2
        rw [if_neg h2] at h
        split
        · rfl
        · rename_i h3
          rw [if_neg h3] at h
          exact Ed r _ h
theorem Ee:∀ (l:List Px) (o:List UInt8),(iL l o).1.length≤o.length + 258 * l.length
  | [],o=>by unfold iL;simp
  | x :: r,o=>by
    unfold iL
    split
    · simp
    · rename_i hm
      have hm:oW x = true:=by simpa using hm
      split
      · have:=Ee r (o ++ [x.byte])
        simp at this ⊢
        omega
      · rename_i h0
        split
        · simp
        · have:=Ee r (mQ x.dist.toNat x.len.toNat o)
          rw [sG] at this
          have:=Gx hm h0
          simp
          omega
theorem Ud {l:List Px} (h:(iL l []).2 = 0):(jM l).1.length≤10 + 5 * l.length:=by
  have h0:jC ⟨0,[]⟩:=rfl
  obtain ⟨h1,h2⟩:=dP (x:=1) h0 1
  obtain ⟨h3,h4⟩:=dP (x:=1) h1 2
  obtain ⟨h5,h6⟩:=zh l _ h3 (Dj h)
  obtain ⟨h7,h8⟩:=jL (cs:=lcL) (ls:=flL) (y:=256) h5
  have h9:=yg 256 (by omega)
  unfold jM
  rw [if_neg (by simp [h])]
  unfold jC at h7
  show (jB _ lcL flL 256).o.length≤_
  rw [h7,h8]
  have e2:(cZ (cZ ⟨0,[]⟩ 1 1) 1 2).k = 3:=by rw [h4,h2]
  omega
theorem YI {r:List AV} {cs:List Value} (h:Cells [.i .i64,.i .i64,.i .u8] r cs):∃ p:Px,AV.pc r = pxR p∧True:=by
  rcases h with _ | ⟨h0,h⟩
  rcases h with _ | ⟨h1,h⟩
  rcases h with _ | ⟨h2,h⟩
  cases h
  obtain ⟨x0,rfl,_,w0⟩:=h0
  obtain ⟨x1,rfl,_,w1⟩:=h1
  obtain ⟨x2,rfl,_,w2⟩:=h2
  obtain ⟨k,rfl,hk⟩:=AM.nat_wf rfl w2
  have hk:k < 256:=hk
  refine ⟨⟨x0,x1,UInt8.ofNat k⟩,?_,trivial⟩
  unfold pxR
  rw [show (UInt8.ofNat k).toNat = k by rw [UInt8.toNat_ofNat'];omega]
theorem aam:leaves Try.prog 2 25 = some [.i .i64,.i .i64,.i .u8]:=by kernel_rfl
theorem WB {H:Type} {enc:TypeId × Value→H} {W:World} {base:Nat} {v:Value} {d:DataW H} {ps:List MemPlace} (hval:Value.okWide Try.prog W .any base 22 v) (hd:DataW.Trod enc Try.prog W 0 (fun _=>true) true 22 v d ps) :
    ∃ (c:Nat) (l:List Px),(c = 0→l = [])∧AM.aC (AM.start W) (AM.T0 W.heap.size) (.ro c (.pr 3 (l.map pxR)) 1) v:=by
  obtain ⟨c,rows,h1,h2,h3,h4⟩:=AM.Ue (show Try.prog.underlying 22 = some (.slice 25) by kernel_rfl) aam (by kernel_rfl) (by simp) hval hd
  obtain ⟨l,q1,q2,q3⟩:=AM.P5 AV.pc pxR (Q:=fun _=>True) (rows:=rows) (fun r hr=>by
    obtain ⟨⟨cs,h⟩,hs⟩:=h1 r hr
    exact YI h)
  refine ⟨c,l,fun h=>?_,?_⟩
  · have:=h2 h
    subst this
    exact List.eq_nil_of_length_eq_zero q2
  · rw [← q1]
    exact h4
section
variable (c:Nat) (l:List Px)
theorem WC:∃ code,Try.f7.body = some code ∧
    aj (rF fun fr H=>ay fr 2 = .bool true) X (evT X) 7 0 code [(0,.ro c (.pr 3 (l.map pxR)) 1)] []:=by
  refine ⟨_,rfl,?_⟩
  have hL:=Uf []
  have hll:(l.map pxR).length = l.length:=by simp
  apply aj.seq (fr':=[(0,.ro c (.pr 3 (l.map pxR)) 1)]) (H':=[])
  · generalize l.map pxR = M at *
    (refine ⟨0,?_⟩;simp (maxSteps:=2000000) -implicitDefEqProofs [-getElem?_pos,go_sem,eqV,ah])
  apply aj.assoc
  apply aj.seq (fr':=[(0,.ro c (.pr 3 (l.map pxR)) 1),(11,.bool false)]) (H':=[])
  · generalize l.map pxR = M at *
    (refine ⟨0,?_⟩;simp (maxSteps:=2000000) -implicitDefEqProofs [-getElem?_pos,go_sem,eqV,ah,hL])
  apply aj.seq (fr':=[(0,.ro c (.pr 3 (l.map pxR)) 1),(11,.bool false)]) (H':=[])
  · refine ⟨0,?_⟩
    generalize l.map pxR = M at *
    simp (maxSteps:=2000000) -implicitDefEqProofs [-getElem?_pos,go_sem,eqV,ah]
  clear hL
  by_cases hb:(300:Int) < (l.length:Int)
  · refine aj.of (o:=⟨.ret,[(2,.bool true)],[]⟩) ⟨0,?_⟩ ⟨rfl,rfl⟩
    generalize l.map pxR = M at *
    simp (maxSteps:=2000000) -implicitDefEqProofs [-getElem?_pos,go_sem,eqV,ah,hb,hll]
  have hbl:l.length≤300:=by omega
  apply aj.assoc
  apply aj.seq (fr':=[(0,.ro c (.pr 3 (l.map pxR)) 1),(14,.bool false)]) (H':=[])
  · generalize l.map pxR = M at *
    (refine ⟨0,?_⟩;simp (maxSteps:=2000000) -implicitDefEqProofs [-getElem?_pos,go_sem,eqV,ah,hb,hll])
  apply aj.seq (fr':=[(0,.ro c (.pr 3 (l.map pxR)) 1),(14,.bool false)]) (H':=[])
  · refine ⟨0,?_⟩
    generalize l.map pxR = M at *
    simp (maxSteps:=2000000) -implicitDefEqProofs [-getElem?_pos,go_sem,eqV,ah]
  obtain ⟨ob1,w1,e1⟩:=Gm (H:=[]) (a:=.ro c (.pr 3 (l.map pxR)) 1) (l:=l) rfl (by omega)
  obtain ⟨ob2,w2,e2⟩:=Gy (H:=[some ob1]) (a:=.ro c (.pr 3 (l.map pxR)) 1) (l:=l) rfl (by omega)
  simp only [List.length_cons,List.length_nil,List.cons_append,List.nil_append] at e1 e2
  have hbad:=Ed l []
  have hmax:=Ee l []
  simp only [List.length_nil,Nat.zero_add] at hmax
  have hfl:=Ud (l:=l)
  have hfe:(jM l).2 = (iL l []).2:=by
    unfold jM
    split
    · rfl
    · rename_i h
      exact (Classical.not_not.1 h).symm
  have hfb:(iL l []).2 ≠ 0→(jM l).1 = []:=fun h=>by unfold jM;rw [if_pos h]
  have hrd:=fun (h:(iL l []).2 = 0)=>Ug (F:=60000) (out:=(iL l []).1) (mo:=((iL l []).1.length:Nat)) (l:=l) (by rw [← h]) (by omega) (by omega)
  rw [hfe] at e2
  generalize iL l [] = xp at *
  obtain ⟨out,er⟩:=xp
  generalize (jM l).1 = fx at *
  simp only at w1 w2 e1 e2 hbad hmax hfl hfb hrd
  have k1:([some ob1,some ob2]:AM.Heap)[0]? = some (some ob1):=rfl
  have k2:([some ob1,some ob2]:AM.Heap)[1]? = some (some ob2):=rfl
  have hL2:([some ob1,some ob2]:AM.Heap).length = 2:=rfl
  apply aj.seq (fr':=[(0,.ro c (.pr 3 (l.map pxR)) 1),(3,.sl 0 0 out.length 0),(4,.int .i64 er)]) (H':=[some ob1])
  · generalize l.map pxR = M at *
    generalize out.length = N at *
    (refine ⟨0,?_⟩;simp (maxSteps:=2000000) -implicitDefEqProofs [-getElem?_pos,go_sem,eqV,ah,e1,ak])
  apply aj.seq (fr':=[(3,.sl 0 0 out.length 0),(4,.int .i64 er),(5,.sl 1 0 fx.length 0),(6,.int .i64 er)]) (H':=[some ob1,some ob2])
  · generalize l.map pxR = M at *
    generalize fx.length = N2 at *
    generalize out.length = N at *
    (refine ⟨0,?_⟩;simp (maxSteps:=2000000) -implicitDefEqProofs [-getElem?_pos,go_sem,eqV,ah,e2,ak])
  clear e1 e2
  generalize ([some ob1,some ob2]:AM.Heap) = E at *
  have g1:=w1.g;have g2:=w2.g
  apply aj.assoc
  apply aj.seq (fr':=[(3,.sl 0 0 out.length 0),(4,.int .i64 er),(5,.sl 1 0 fx.length 0),(27,.bool false)]) (H':=E)
  · generalize fx.length = N2 at *
    generalize out.length = N at *
    (refine ⟨0,?_⟩;simp (maxSteps:=2000000) -implicitDefEqProofs [-getElem?_pos,go_sem,eqV,ah])
  apply aj.seq (fr':=[(3,.sl 0 0 out.length 0),(4,.int .i64 er),(5,.sl 1 0 fx.length 0),(27,.bool false)]) (H':=E)
  · refine ⟨0,?_⟩
    generalize fx.length = N2 at *
    generalize out.length = N at *
    simp (maxSteps:=2000000) -implicitDefEqProofs [-getElem?_pos,go_sem,eqV,ah]
  apply aj.assoc
  by_cases he:¬ er = 0
  · have heb:(er != 0) = true:=by simpa using he
    rw [hbad he,hfb he] at *
    apply aj.seq (fr':=[(3,.sl 0 0 0 0),(5,.sl 1 0 0 0),(29,.bool true)]) (H':=E)
    · (refine ⟨0,?_⟩;simp (maxSteps:=2000000) -implicitDefEqProofs [-getElem?_pos,go_sem,eqV,ah,he,heb])
    refine aj.Uc ?_ (fun o ho=>by rw [ho.1];simp)
    refine aj.KA (by simp [aJ,ay]) ?_
    apply aj.seq (fr':=[(2,.bool true)]) (H':=E)
    · have wz:IntKind.i64.wrap 0 = 0:=wrap_i64 (by omega) (by omega)
      (refine ⟨0,?_⟩;simp (maxSteps:=2000000) -implicitDefEqProofs [-getElem?_pos,go_sem,eqV,ah,k1,k2,g1,g2,wz])
    exact aj.of (o:=⟨.ret,[(2,.bool true)],E⟩) ⟨0,rfl⟩ ⟨rfl,rfl⟩
  have he:er = 0:=Classical.not_not.1 he
  subst he
  have hrd:=hrd rfl
  have hfl:=hfl rfl
  apply aj.seq (fr':=[(3,.sl 0 0 out.length 0),(5,.sl 1 0 fx.length 0),(29,.bool false)]) (H':=E)
  · generalize fx.length = N2 at *
    generalize out.length = N at *
    (refine ⟨0,?_⟩;simp (maxSteps:=2000000) -implicitDefEqProofs [-getElem?_pos,go_sem,eqV,ah])
  apply aj.seq (fr':=[(3,.sl 0 0 out.length 0),(5,.sl 1 0 fx.length 0),(29,.bool false)]) (H':=E)
  · refine ⟨0,?_⟩
    generalize fx.length = N2 at *
    generalize out.length = N at *
    simp (maxSteps:=2000000) -implicitDefEqProofs [-getElem?_pos,go_sem,eqV,ah]
  have p2:eG E (.sl 1 0 fx.length 0) = some (.pb fx):=WA k2 w2
  obtain ⟨aeF,n,e,v0,R1,hI,q2,q3⟩:=KD (F:=60000) (H:=E) (a:=.sl 1 0 fx.length 0) (mo:=(out.length:Nat)) p2 (by omega) (by omega) (by omega) (by omega) (by omega)
  rw [hrd] at hI
  obtain ⟨rfl,rfl,rfl⟩:out = aeF∧(fx.length:Int) = n∧0 = e:=by simpa using hI
  have hF:∀ j,j < 2→(E ++ R1)[j]? = E[j]?:=fun j hj=>List.getElem?_append_left (by omega)
  have hFl:2≤(E ++ R1).length:=by simp;omega
  generalize E ++ R1 = F1 at *
  obtain ⟨v,H2,hA,hv,hle,hkp⟩:=q3.asg
  have hk2:∀ j,j < 2→H2[j]? = E[j]?:=fun j hj=>by
    rw [hkp j (by omega),hF j hj]
  apply aj.seq (fr':=[(3,.sl 0 0 out.length 0),(5,.sl 1 0 fx.length 0),(7,v),(8,.int .i64 (fx.length:Nat)),(9,.int .i64 0)]) (H':=H2)
  · have hA':=hA
    simp only [ak,BN] at hA'
    generalize fx.length = N2 at *
    generalize out.length = N at *
    (refine ⟨0,?_⟩;simp (maxSteps:=2000000) -implicitDefEqProofs [-getElem?_pos,go_sem,eqV,ah,q2,hA',aeE,k1,g1])
  rw [← hk2 0 (by omega)] at k1
  rw [← hk2 1 (by omega)] at k2
  have s1:=Ef hv.byt (Byt.whole k1 w1)
  rw [beq_self_eq_true] at s1
  refine aj.of (o:=⟨.ret,[(2,.bool true)],H2⟩) ?_ ⟨rfl,rfl⟩
  refine ⟨0,?_⟩
  generalize fx.length = N2 at *
  generalize out.length = N at *
  simp (maxSteps:=2000000) -implicitDefEqProofs [-getElem?_pos,go_sem,eqV,ah,s1,k1,k2,g1,g2]
end
end Go.Proofs.Yteblpjhkgdpchaa
