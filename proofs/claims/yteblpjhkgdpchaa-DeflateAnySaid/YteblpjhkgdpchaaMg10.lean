/- IU to J1: texts of this claim, one behind the other; what each shows stands at its head. -/
import Derived.Test.YteblpjhkgdpchaaAm4
import Derived.Test.YteblpjhkgdpchaaMg9
set_option linter.unusedSimpArgs false
set_option linter.unusedVariables false
set_option maxRecDepth 100000
set_option maxHeartbeats 8000000
namespace Go.Proofs.Yteblpjhkgdpchaa
open Go.AM
def sO (b:List UInt8) (mo:Int) {α β:Type} (m:PM α) (s1:Is) (m0:PM β) (s:Is) (f:α→β):Prop:=∀ s2 y,fO b mo m s1 s2 y→fO b mo m0 s s2 (f y)
theorem sO.step {b:List UInt8} {mo:Int} {α β γ:Type} {m:PM γ} {k:γ→PM α} {s1 s2:Is} {m0:PM β} {s:Is} {f:α→β} {x:γ} (h:sO b mo (dG m k) s1 m0 s f) (h2:fO b mo m s1 s2 x):sO b mo (k x) s2 m0 s f:=fun _ _ h3=>h _ _ (h2.bnd h3)
def MQ:List Int:=[16,17,18,0,8,7,9,6,10,5,11,4,12,3,13,2,14,1,15]
def orO (τ:Nat):AM.Obj:=⟨.pi .i64 MQ,0,some 19,1,false,false,τ⟩
theorem Xu {i:Nat} (h:i < 19):∃ k:Nat,yw[i]? = some k∧MQ[i]? = some (k:Int)∧k < 19:=by
  have key:(List.range 19).all (fun i=>match yw[i]?,MQ[i]? with | some k,some x=>decide (x = (k:Int)) && decide (k < 19) | _,_=>false) = true:=by kernel_rfl
  have:=List.all_eq_true.1 key i (List.mem_range.2 h)
  have h1:i < yw.length:=h
  have h2:i < MQ.length:=h
  rw [List.getElem?_eq_getElem h1,List.getElem?_eq_getElem h2] at this ⊢
  simp only [Bool.and_eq_true,decide_eq_true_eq] at this
  exact ⟨yw[i],rfl,congrArg some this.1,this.2⟩
section
variable {c:Nat} {b:List UInt8} {mo:Int} {t:Nat} {H:AM.Heap} {o:Nat} {oa:Option Nat} {s:Is}
theorem abu:lU X 82 [(0,.int .i64 16),(1,.int .i64 17),(2,.int .i64 18),(3,.int .i64 0),(4,.int .i64 8),(5,.int .i64 7),(6,.int .i64 9),(7,.int .i64 6),(8,.int .i64 10),(9,.int .i64 5),(10,.int .i64 11),(11,.int .i64 4),(12,.int .i64 12),(13,.int .i64 3),(14,.int .i64 13),(15,.int .i64 2),(16,.int .i64 14),(17,.int .i64 1),(18,.int .i64 15)] = some (.agg (.pi .i64 MQ)):=by kernel_rfl
def rZ (nl nd nc:Nat):AM.Frame:=[(0,.ptr 0 0 0 0),(4,.int .i64 (nl:Nat)),(5,.int .i64 (nd:Nat)),(6,.int .i64 (nc:Nat))]
theorem abv {m:Nat} {E:AM.Heap} (h:IrV c b mo t E 0 oa s) (hs:fE b mo s) (hb:b.length≤100000):∃ E' oa' s1 s2 s3,∃ nl nd nc:Nat,IrV c b mo t E' 0 oa' s3∧bV b mo (gV b 5) 0 s s1 (nl:Nat)∧bV b mo (gV b 5) 0 s1 s2 (nd:Nat)∧bV b mo (gV b 4) 0 s2 s3 (nc:Nat)∧nl < 32∧nd < 32∧nc < 16∧Kpt E E' 0 oa oa' ∧
    ∃ code,((Try.f48.body).bind (aI [1,0])) = some code∧Run X (evT X) 48 m code [(0,.ptr 0 0 0 0)] E ⟨.normal,rZ (257 + nl) (1 + nd) (4 + nc),E'⟩:=by
  obtain ⟨E1,oa1,s1,nl,h1,h2,h3,h4⟩:=iQ (n:=5) (I:=5) rfl h hs hb (by omega)
  obtain ⟨a1,a2⟩:=gJ h3 hs
  obtain ⟨nl,rfl⟩:∃ u':Nat,nl = (u':Int):=⟨nl.toNat,by omega⟩
  obtain ⟨E2,oa2,s2,nd,g1,g2,g3,g4⟩:=iQ (n:=5) (I:=5) rfl h2 h3.1 hb (by omega)
  obtain ⟨a3,a4⟩:=gJ g3 h3.1
  obtain ⟨nd,rfl⟩:∃ u':Nat,nd = (u':Int):=⟨nd.toNat,by omega⟩
  obtain ⟨E3,oa3,s3,nc,k1,k2,k3,k4⟩:=iQ (n:=4) (I:=4) rfl g2 g3.1 hb (by omega)
  obtain ⟨a5,a6⟩:=gJ k3 g3.1
  obtain ⟨nc,rfl⟩:∃ u':Nat,nc = (u':Int):=⟨nc.toNat,by omega⟩
  refine ⟨E3,oa3,s1,s2,s3,nl,nd,nc,k2,h3,g3,k3,by omega,by omega,by omega,(h4.trans g4).trans k4,_,rfl,?_⟩
  have w1:IntKind.i64.wrap (257 + (nl:Int)) = ((257 + nl:Nat):Int):=by rw [wrap_i64 (by omega) (by omega)];omega
  have w2:IntKind.i64.wrap (1 + (nd:Int)) = ((1 + nd:Nat):Int):=by rw [wrap_i64 (by omega) (by omega)];omega
  have w3:IntKind.i64.wrap (4 + (nc:Int)) = ((4 + nc:Nat):Int):=by rw [wrap_i64 (by omega) (by omega)];omega
  simp only [rZ]
  generalize 257 + nl = x at *
  generalize 1 + nd = y at *
  generalize 4 + nc = z at *
  (refine ⟨0,?_⟩;simp (maxSteps:=2000000) -implicitDefEqProofs [-getElem?_pos,go_sem,eqV,ah,h1,g1,k1,w1,w2,w3,ak])
theorem abw {m nl nd nc:Nat} {E:AM.Heap} (h:IrV c b mo t E 0 oa s):∃ code,((Try.f48.body).bind (aI [1,1,0,0])) = some code∧Run X (evT X) 48 m code (rZ nl nd nc) E ⟨.normal,rZ nl nd nc ++ [(36,.bool (s.e == 0 && (decide (286 < nl) || decide (30 < nd))))],E⟩:=by
  refine ⟨_,rfl,?_⟩
  obtain ⟨⟨vo,τ1,τ,a1,a2,h0,ho⟩,hne⟩:=id h
  simp only [bF] at h0
  simp only [rZ]
  by_cases he:s.e = 0
  · rw [he] at h0 ⊢
    by_cases h1:286 < nl
    · have h1I:(286:Int) < (nl:Int):=by omega
      rw [decide_eq_true h1]
      (refine ⟨0,?_⟩;simp (maxSteps:=2000000) -implicitDefEqProofs [-getElem?_pos,go_sem,eqV,ah,h0,h1I])
    · have h1I:¬ (286:Int) < (nl:Int):=by omega
      rw [decide_eq_false h1]
      by_cases h2:30 < nd
      · have h2I:(30:Int) < (nd:Int):=by omega
        rw [decide_eq_true h2]
        (refine ⟨0,?_⟩;simp (maxSteps:=2000000) -implicitDefEqProofs [-getElem?_pos,go_sem,eqV,ah,h0,h1I,h2I])
      · have h2I:¬ (30:Int) < (nd:Int):=by omega
        rw [decide_eq_false h2]
        (refine ⟨0,?_⟩;simp (maxSteps:=2000000) -implicitDefEqProofs [-getElem?_pos,go_sem,eqV,ah,h0,h1I,h2I])
  · rw [show (s.e == 0) = false by simpa using he,Bool.false_and]
    have heb:(s.e == 0) = false:=by simpa using he
    (refine ⟨0,?_⟩;simp (maxSteps:=2000000) -implicitDefEqProofs [-getElem?_pos,go_sem,eqV,ah,h0,he,heb])
def uO (p7 p8 nl nd nc i:Nat):AM.Frame:=[(0,.ptr 0 0 0 0),(4,.int .i64 (nl:Nat)),(5,.int .i64 (nd:Nat)),(7,.ptr p7 0 0 0),(8,.sl p8 0 19 0),(41,.int .i64 (nc:Nat)),(42,.int .i64 (i:Nat))]
theorem abx {m p7 p8 nl nd nc i τ7:Nat} {cl:List Int} {ob:AM.Obj} {E:AM.Heap} (h:IrV c b mo t E 0 oa s) (hs:fE b mo s) (hb:b.length≤100000) (h7:E[p7]? = some (some (orO τ7))) (h8:E[p8]? = some (some ob)) (hw:RwT (.pi .i64 cl) 0 0 ob) (hcl:cl.length = 19) (hi:i < 19)
    (n7:p7 ≠ 0) (n8:p8 ≠ 0) (n78:p7 ≠ p8) (o7:∀ a,oa = some a→p7 ≠ a) (o8:∀ a,oa = some a→p8 ≠ a) :
    ∃ E' oa' s' ob',∃ x:Int,∃ k:Nat,yw[i]? = some k∧IrV c b mo t E' 0 oa' s'∧bV b mo (gV b 3) 0 s s' x∧(∀ a,oa = some a→oa' = some a)∧(∀ a,oa' = some a→p7 ≠ a∧p8 ≠ a)∧E'[p7]? = some (some (orO τ7))∧E'[p8]? = some (some ob')∧RwT (.pi .i64 (cl.set k x)) 0 0 ob' ∧
      ∃ code,((Try.f48.body).bind (aI [1,1,1,1,1,0,1,0,0,1,1,0,0,1])) = some code∧Run X (evT X) 48 m code [(0,.ptr 0 0 0 0),(4,.int .i64 (nl:Nat)),(5,.int .i64 (nd:Nat)),(7,.ptr p7 0 0 0),(8,.sl p8 0 19 0),(9,.int .i64 (i:Nat)),(41,.int .i64 (nc:Nat)),(42,.int .i64 (i:Nat))] E ⟨.normal,uO p7 p8 nl nd nc i,E'⟩:=by
  obtain ⟨k,hk,hkI,aiz⟩:=Xu hi
  obtain ⟨E1,oa1,s1,x,h1,h2,h3,h4⟩:=iQ (n:=3) (I:=3) rfl h hs hb (by omega)
  have Y8:=eP h7
  have aiA:=eP h8
  have k7:E1[p7]? = some (some (orO τ7)):=by rw [h4.rest p7 Y8 n7 o7];exact h7
  have k8:E1[p8]? = some (some ob):=by rw [h4.rest p8 aiA n8 o8];exact h8
  have m7:∀ a,oa1 = some a→p7 ≠ a:=by
    intro a ha
    cases hq:oa with
    | none=>have:=h4.new a hq ha;omega
    | some z=>have:=h4.same z hq;rw [ha] at this;cases this;exact o7 _ hq
  have m8:∀ a,oa1 = some a→p8 ≠ a:=by
    intro a ha
    cases hq:oa with
    | none=>have:=h4.new a hq ha;omega
    | some z=>have:=h4.same z hq;rw [ha] at this;cases this;exact o8 _ hq
  refine ⟨AM.upd E1 p8 (some ⟨.pi .i64 (cl.set k x),0,ob.cap,ob.z,true,false,0⟩),oa1,s1,⟨.pi .i64 (cl.set k x),0,ob.cap,ob.z,true,false,0⟩,x,k,hk,h2.other n8 m8,h3,h4.same,fun a ha=>⟨m7 a ha,m8 a ha⟩,vG k7 (Ne.symm n78),setAt k8,⟨rfl,rfl,rfl,rfl,rfl⟩,_,rfl,?_⟩
  · have hre:=h.reach
    have Yd:=IrV.off (o:=0) o7 n7
    have al4:=IrV.off (o:=0) o8 n8
    have q1:=hw.p;have q2:=hw.g;have q3:=hw.row;have q4:=hw.ids;have q5:=hw.tg
    have aby:((k:Nat):Int) < 19:=by omega
    have hiI:((i:Nat):Int) < 19:=by omega
    have hol:MQ.length = 19:=rfl
    generalize 0 :: oa.toList = L at *
    simp only [orO] at h7 k7
    simp only [uO]
    generalize MQ = R at *
    apply Run.dy (by simp) Vf (by simp)
    · (conv=>lhs;simp (maxSteps:=2000000) -implicitDefEqProofs [-getElem?_pos,go_sem,eqV,ah,jQ,out1,bI,lq,jq,pushes,jE,gK,touched,mentioned,iG,eX,bT,lu,Op.operands,ids,aB,aH,dR,dO,fQ,jR,h7,h8,k8,hkI,h1,hre,hol,hiI,hi,aby,aiz,q1,q2,q3,q4,q5,hcl,ak,iH])
      rfl
    · refine jr (ps:=[(0,1),(0,2),(0,3),(0,4),(1,4),(2,4),(3,4),(0,5),(1,5),(2,5),(3,5)]) (by kernel_rfl) ?_
      by_cases hl:E1.length = E.length
      · simp [uT,bear,disjoint,kT,Call.operands,aJ,ay,aB,ids,iH,hl,Yd,Y8]
      · simp [uT,bear,disjoint,kT,Call.operands,aJ,ay,aB,ids,iH,hl,Yd,Y8]
    · rfl
end
end Go.Proofs.Yteblpjhkgdpchaa
namespace Go.Proofs.Yteblpjhkgdpchaa
open Go.AM
section
variable {c:Nat} {b:List UInt8} {mo:Int} {t:Nat} {H:AM.Heap} {o:Nat} {oa:Option Nat} {s:Is}
def kJ (a n k g:Nat):AM.Frame:=[(0,.ptr 0 0 0 0),(2,.sl a 0 n g),(3,.sl a n k g)]
theorem mD {E:AM.Heap} {a g τ off n:Nat} {ob:AM.Obj} {acc:List Int} (ha:E[a]? = some (some ob)) (hw:RwT (.pi .i64 acc) g τ ob) (hn:off + n≤acc.length):eG E (.sl a off n g) = some (.pi .i64 ((acc.drop off).take n)):=by
  simp [eG,live,ha,hw.g,hw.ids,hw.p,jv,hn]
theorem Y9 {m a n k g τ:Nat} {acc:List Int} {ob:AM.Obj} {E:AM.Heap} (ha:E[a]? = some (some ob)) (hw:RwT (.pi .i64 acc) g τ ob) (hn:n≤acc.length) (Kw:257≤n) (anE:acc.length≤400):∃ code,((Try.f48.body).bind (aI [1,1,1,1,1,1,1,1,1,1,1,1,0,0])) = some code ∧
    Run X (evT X) 48 m code (kJ a n k g ++ [(13,.bool (bn (acc.take n)).1),(14,.int .i64 (bn (acc.take n)).2)]) E ⟨.normal,kJ a n k g ++ [(109,.bool (!zk (acc.take n)))],E⟩:=by
  refine ⟨_,rfl,?_⟩
  have hp:eG E (.sl a 0 n g) = some (.pi .i64 (acc.take n)):=by simpa using mD (off:=0) ha hw (by omega)
  obtain ⟨y,hy⟩:∃ y,acc[256]? = some y:=⟨_,List.getElem?_eq_getElem (by omega)⟩
  have hyd:(acc.take n).getD 256 0 = y:=by
    rw [List.getD_eq_getElem?_getD,List.getElem?_take,if_pos (by omega),hy];rfl
  have h256:(256:Int) < (n:Int):=by omega
  have Qz:256 < n:=by omega
  have QA:256 < acc.length:=by omega
  have q1:=hw.p;have q2:=hw.g;have q4:=hw.ids
  by_cases he:(bn (acc.take n)).2 = 0
  · have H9:=(oM he)
    have hL:=Uz hp H9.1 H9.2
    unfold zk
    rw [hyd]
    rw [he]
    generalize FZ (acc.take n) = lo at *
    generalize (bn (acc.take n)).1 = w at *
    simp only [kJ]
    by_cases hy0:y = 0
    · subst hy0
      (refine ⟨0,?_⟩;simp (maxSteps:=2000000) -implicitDefEqProofs [-getElem?_pos,go_sem,eqV,ah,ha,q1,q2,q4,h256,Qz,QA,hy])
    · have hyb:(y == 0) = false:=by simpa using hy0
      have Za:(y != 0) = true:=by simpa using hy0
      cases w
      · cases lo
        · (refine ⟨0,?_⟩;simp (maxSteps:=2000000) -implicitDefEqProofs [-getElem?_pos,go_sem,eqV,ah,ha,q1,q2,q4,h256,Qz,QA,hy,hy0,hyb,Za,hL])
        · (refine ⟨0,?_⟩;simp (maxSteps:=2000000) -implicitDefEqProofs [-getElem?_pos,go_sem,eqV,ah,ha,q1,q2,q4,h256,Qz,QA,hy,hy0,hyb,Za,hL])
      · (refine ⟨0,?_⟩;simp (maxSteps:=2000000) -implicitDefEqProofs [-getElem?_pos,go_sem,eqV,ah,ha,q1,q2,q4,h256,Qz,QA,hy,hy0,hyb,Za])
  · have heb:((bn (acc.take n)).2 != 0) = true:=by simpa using he
    have Zb:((bn (acc.take n)).2 == 0) = false:=by simpa using he
    unfold zk
    rw [Zb]
    generalize (bn (acc.take n)).1 = w at *
    generalize (bn (acc.take n)).2 = e at *
    simp only [kJ]
    (refine ⟨0,?_⟩;simp (maxSteps:=2000000) -implicitDefEqProofs [-getElem?_pos,go_sem,eqV,ah,he,heb])
theorem Zc {m a n k g τ:Nat} {acc:List Int} {ob:AM.Obj} {E:AM.Heap} (ha:E[a]? = some (some ob)) (hw:RwT (.pi .i64 acc) g τ ob) (hn:n + k = acc.length):∃ code,((Try.f48.body).bind (aI [1,1,1,1,1,1,1,1,1,1,1,1,1,1,0,0])) = some code ∧
    Run X (evT X) 48 m code (kJ a n k g ++ [(13,.bool (bn (acc.drop n)).1),(14,.int .i64 (bn (acc.drop n)).2)]) E ⟨.normal,kJ a n k g ++ [(132,.bool (!zn (acc.drop n)))],E⟩:=by
  refine ⟨_,rfl,?_⟩
  have hp:eG E (.sl a n k g) = some (.pi .i64 (acc.drop n)):=by
    have:=mD (off:=n) (n:=k) ha hw (by omega)
    rwa [List.take_of_length_le (by simp;omega)] at this
  by_cases he:(bn (acc.drop n)).2 = 0
  · have H9:=(oM he)
    have hL:=Uz hp H9.1 H9.2
    have hN:=YT hp H9.1
    unfold zn
    rw [he]
    generalize FZ (acc.drop n) = lo at *
    generalize F5 (acc.drop n) = no at *
    generalize (bn (acc.drop n)).1 = w at *
    simp only [kJ]
    cases w
    · cases lo
      · cases no
        · (refine ⟨0,?_⟩;simp (maxSteps:=2000000) -implicitDefEqProofs [-getElem?_pos,go_sem,eqV,ah,hL,hN])
        · (refine ⟨0,?_⟩;simp (maxSteps:=2000000) -implicitDefEqProofs [-getElem?_pos,go_sem,eqV,ah,hL,hN])
      · (refine ⟨0,?_⟩;simp (maxSteps:=2000000) -implicitDefEqProofs [-getElem?_pos,go_sem,eqV,ah,hL])
    · (refine ⟨0,?_⟩;simp (maxSteps:=2000000) -implicitDefEqProofs [-getElem?_pos,go_sem,eqV,ah])
  · have heb:((bn (acc.drop n)).2 != 0) = true:=by simpa using he
    have Zb:((bn (acc.drop n)).2 == 0) = false:=by simpa using he
    unfold zn
    rw [Zb]
    generalize (bn (acc.drop n)).1 = w at *
    generalize (bn (acc.drop n)).2 = e at *
    simp only [kJ]
    (refine ⟨0,?_⟩;simp (maxSteps:=2000000) -implicitDefEqProofs [-getElem?_pos,go_sem,eqV,ah,he,heb])
theorem Zd {m a N nl nd g τ:Nat} {acc:List Int} {ob:AM.Obj} {E:AM.Heap} (ha:E[a]? = some (some ob)) (hw:RwT (.pi .i64 acc) g τ ob) (hN:acc.length = N) (hn:nl≤N):∃ code,((Try.f48.body).bind (aI [1,1,1,1,1,1,1,1,1,1,0])) = some code ∧
    Run X (evT X) 48 m code [(0,.ptr 0 0 0 0),(4,.int .i64 (nl:Nat)),(12,.sl a 0 N g),(81,.bool false)] E ⟨.normal,kJ a nl (N - nl) g,E⟩:=by
  refine ⟨_,rfl,?_⟩
  have q1:=hw.p;have q2:=hw.g;have q4:=hw.ids
  have h1:(nl:Int)≤(N:Int):=by omega
  have h2:((N:Nat):Int).toNat = N:=by omega
  simp only [kJ]
  apply Run.dy (by simp) SI (by simp)
  · (conv=>lhs;simp (maxSteps:=2000000) -implicitDefEqProofs [-getElem?_pos,go_sem,eqV,ah,jQ,out1,bI,lq,jq,pushes,jE,gK,touched,mentioned,iG,eX,bT,lu,Op.operands,ids,aB,aH,dR,dO,fQ,jR,ha,q1,q2,q4,hN,hn,h1,h2,uK,bound,ak,iH])
  · refine jr (ps:=[(0,1),(0,3),(1,3),(2,3),(0,4),(1,4),(2,4),(3,4),(0,5),(1,5),(2,5),(3,6),(4,6),(5,6)]) (by kernel_rfl) ?_
    simp [uT,bear,disjoint,kT,Call.operands,aJ,ay,aB,ids,iH]
  · rfl
theorem QB {b:List UInt8} {L:List Int} {N:Nat}:∀ {f:Nat} {acc a:List Int} {k k':Nat} {o o':List UInt8},uj b L N f acc k o = .ok a k' o'→acc.length≤N→a.length = N
  | 0,_,_,_,_,_,_,h,_=>by cases h
  | f + 1,acc,a,k,k',o,o',h,hl=>by
    unfold uj at h
    split at h
    · obtain ⟨rfl,_⟩:=iy h
      omega
    · rename_i hn
      obtain ⟨j,k1,o1,h1,h2⟩:=iZ h
      obtain ⟨a2,k2,o2,h3,h4⟩:=iZ h2
      refine QB h4 ?_
      have hag:∀ {x:Int} {t:Nat} {k k':Nat} {o o':List UInt8} {a:List Int},uX N acc x t k o = .ok a k' o'→a.length≤N:=by
        intro x t k k' o o' a h
        unfold uX at h
        split at h
        · cases h
        · obtain ⟨rfl,_⟩:=iy h
          rw [List.length_append,List.length_replicate];omega
      unfold CX at h3
      split at h3
      · split at h3
        · cases h3
        · obtain ⟨u,k3,o3,g1,g2⟩:=iZ h3
          exact hag g2
      · split at h3
        · obtain ⟨u,k3,o3,g1,g2⟩:=iZ h3
          exact hag g2
        · split at h3
          · obtain ⟨u,k3,o3,g1,g2⟩:=iZ h3
            exact hag g2
          · obtain ⟨rfl,_⟩:=iy h3
            simp;omega
end
end Go.Proofs.Yteblpjhkgdpchaa
namespace Go.Proofs.Yteblpjhkgdpchaa
open Go.AM
def DyR (t:Nat) (E:AM.Heap) (oa:Option Nat) (v1 v2:AV) (l1 l2:List Int):Prop :=
  (∃ x y o1 o2,v1 = .sl x 0 0 0∧v2 = .sl y 0 0 0∧E[x]? = some (some o1)∧E[y]? = some (some o2)∧RwT (.pi .i64 []) 0 0 o1∧RwT (.pi .i64 []) 0 0 o2∧x ≠ y∧x ≠ 0∧y ≠ 0∧(∀ a,oa = some a→x ≠ a∧y ≠ a)∧l1 = []∧l2 = []) ∨
  (∃ a n k g τ ob acc,v1 = .sl a 0 n g∧v2 = .sl a n k g∧(τ = 0∨τ = t)∧E[a]? = some (some ob)∧RwT (.pi .i64 acc) g τ ob∧a ≠ 0∧(∀ x,oa = some x→a ≠ x)∧n + k = acc.length∧acc.length≤400∧l1 = acc.take n∧l2 = acc.drop n)
section
variable {c:Nat} {b:List UInt8} {mo:Int} {t:Nat} {H:AM.Heap} {o:Nat} {oa:Option Nat} {s:Is}
def dyK (b:List UInt8) (F nl nd:Nat) (cl:List Int):PM (List Int × List Int):=if bn cl = (true,0) then dG (uj b cl (nl + nd) F []) fun a=>if (zk (a.take nl) && zn (a.drop nl)) = true then nJ (a.take nl,a.drop nl) else nK 5 else nK 5
theorem kept {H H':AM.Heap} {oa oa':Option Nat} {j:Nat} (hk:Kpt H H' 0 oa oa') (hj:j < H.length) (h0:j ≠ 0) (ha:∀ a,oa = some a→j ≠ a):H'[j]? = H[j]?∧∀ a,oa' = some a→j ≠ a:=by
  refine ⟨hk.rest j hj h0 ha,fun a h=>?_⟩
  cases hq:oa with
  | none=>have:=hk.new a hq h;omega
  | some z=>have:=hk.same z hq;rw [h] at this;cases this;exact ha _ hq
theorem Xv {m p7 p8 nl nd nc τ7 F:Nat} {cl0:List Int} {ob0:AM.Obj} {E:AM.Heap} {s0:Is} (h:IrV c b mo t E 0 oa s) (hs:fE b mo s) (hb:b.length≤100000) (h7:E[p7]? = some (some (orO τ7))) (h8:E[p8]? = some (some ob0)) (hw:RwT (.pi .i64 cl0) 0 0 ob0) (hcl:cl0.length = 19) (hnc:nc≤19)
    (n7:p7 ≠ 0) (n8:p8 ≠ 0) (n78:p7 ≠ p8) (o7:∀ a,oa = some a→p7 ≠ a) (o8:∀ a,oa = some a→p8 ≠ a)
    (hC:sO b mo (dG (hcP b (yw.take nc) cl0) (dyK b F nl nd)) s (AB b F) s0 (fun u=>u)) :
    ∃ code,((Try.f48.body).bind (aI [1,1,1,1,1,0,1])) = some code∧aj (Goes fun fr E'=>∃ oa' s' cl ob,fr = uO p7 p8 nl nd nc nc ++ [(43,.bool false)]∧IrV c b mo t E' 0 oa' s'∧fE b mo s'∧(∀ a,oa = some a→oa' = some a)∧E'[p8]? = some (some ob)∧RwT (.pi .i64 cl) 0 0 ob∧cl.length = 19∧(∀ a,oa' = some a→p8 ≠ a)∧(s'.e = 0→s.e = 0)∧sO b mo (dyK b F nl nd cl) s' (AB b F) s0 (fun u=>u))
      X (evT X) 48 m code (uO p7 p8 nl nd nc 0) E:=by
  refine ⟨_,rfl,?_⟩
  apply aj.block
  refine aj.kE (I:=fun q fr E'=>∃ oa' s' cl ob i,i≤nc∧q = nc - i∧fr = uO p7 p8 nl nd nc i∧IrV c b mo t E' 0 oa' s'∧fE b mo s'∧(∀ a,oa = some a→oa' = some a)∧E'[p7]? = some (some (orO τ7))∧E'[p8]? = some (some ob)∧RwT (.pi .i64 cl) 0 0 ob∧cl.length = 19∧(∀ a,oa' = some a→p7 ≠ a∧p8 ≠ a)∧(s'.e = 0→s.e = 0) ∧
    sO b mo (dG (hcP b ((yw.take nc).drop i) cl) (dyK b F nl nd)) s' (AB b F) s0 (fun u=>u)) ?_ (k:=nc) ⟨oa,s,cl0,ob0,0,by omega,rfl,rfl,h,hs,fun _ h=>h,h7,h8,hw,hcl,fun a ha=>⟨o7 a ha,o8 a ha⟩,fun h=>h,hC⟩
  rintro q fr E' ⟨oa',s',cl,ob,i,hi,rfl,rfl,hV,hs',hm,k7,k8,hw',hcl',hoff,hee,hC'⟩
  by_cases hin:i = nc
  · subst hin
    refine aj.of (o:=⟨.exit 0,uO p7 p8 nl nd i i ++ [(43,.bool false)],E'⟩) ?_ (.inr ⟨by simp,rfl,oa',s',cl,ob,rfl,hV,hs',hm,k8,hw',hcl',fun a ha=>(hoff a ha).2,hee,?_⟩)
    · simp only [uO]
      (refine ⟨0,?_⟩;simp (maxSteps:=2000000) -implicitDefEqProofs [-getElem?_pos,go_sem,eqV,ah])
    · rw [List.drop_of_length_le (by rw [List.length_take];omega)] at hC'
      exact hC'
  · have hlt:i < nc:=by omega
    have lI:(i:Int) < (nc:Int):=by omega
    obtain ⟨E2,oa2,s2,ob2,x,k,hk,v1,v2,v3,v4,v5,v6,v7,hr9⟩:=abx (m:=m) (nl:=nl) (nd:=nd) (nc:=nc) (i:=i) hV hs' hb k7 k8 hw' hcl' (by omega) n7 n8 n78 (fun a ha=>(hoff a ha).1) (fun a ha=>(hoff a ha).2)
    refine aj.of (o:=⟨.normal,uO p7 p8 nl nd nc (i + 1),E2⟩) ?_ (.inl ⟨rfl,nc - (i + 1),by omega,oa2,s2,cl.set k x,ob2,i + 1,by omega,rfl,rfl,v1,v2.1,fun a ha=>v3 a (hm a ha),v5,v6,v7,by simpa using hcl',v4,fun h=>hee (v2.fine h).1,?_⟩)
    · apply Run.seq (fr':=uO p7 p8 nl nd nc i ++ [(43,.bool true)]) (H':=E')
      · simp only [uO]
        (refine ⟨0,?_⟩;simp (maxSteps:=2000000) -implicitDefEqProofs [-getElem?_pos,go_sem,eqV,ah,lI])
      apply Run.seq (fr':=uO p7 p8 nl nd nc i ++ [(43,.bool true)]) (H':=E')
      · refine ⟨0,?_⟩
        simp only [uO]
        simp (maxSteps:=2000000) -implicitDefEqProofs [-getElem?_pos,go_sem,eqV,ah]
      apply Run.seq (fr':=uO p7 p8 nl nd nc i) (H':=E2)
      · apply Run.block
        · apply Run.seq (fr':=[(0,.ptr 0 0 0 0),(4,.int .i64 (nl:Nat)),(5,.int .i64 (nd:Nat)),(7,.ptr p7 0 0 0),(8,.sl p8 0 19 0),(9,.int .i64 (i:Nat)),(41,.int .i64 (nc:Nat)),(42,.int .i64 (i:Nat))]) (H':=E')
          · simp only [uO]
            (refine ⟨0,?_⟩;simp (maxSteps:=2000000) -implicitDefEqProofs [-getElem?_pos,go_sem,eqV,ah,ak])
          exact piece hr9 _ rfl
        · simp
      · have w1:IntKind.i64.wrap ((i:Int) + 1) = ((i + 1:Nat):Int):=by rw [wrap_i64 (by omega) (by omega)];omega
        simp only [uO]
        (refine ⟨0,?_⟩;simp (maxSteps:=2000000) -implicitDefEqProofs [-getElem?_pos,go_sem,eqV,ah,w1])
    · have hd:(yw.take nc).drop i = k :: (yw.take nc).drop (i + 1):=by
        have hl:i < (yw.take nc).length:=by rw [List.length_take];show i < min nc 19;omega
        rw [List.drop_eq_getElem_cons hl]
        congr 1
        rw [List.getElem_take]
        have hl2:i < yw.length:=by show i < 19;omega
        rw [List.getElem?_eq_getElem hl2] at hk
        exact Option.some.inj hk
      rw [hd] at hC'
      intro s3 y hy
      refine hC' s3 y ?_
      unfold hcP
      rw [EC]
      exact v2.toE.bnd (f:=fun x=>dG (hcP b ((yw.take nc).drop (i + 1)) (cl.set k x)) (dyK b F nl nd)) hy
end
end Go.Proofs.Yteblpjhkgdpchaa
namespace Go.Proofs.Yteblpjhkgdpchaa
open Go.AM
section
variable {c:Nat} {b:List UInt8} {mo:Int} {t:Nat} {H:AM.Heap} {o:Nat} {oa:Option Nat} {s:Is}
theorem OT {E:AM.Heap} (h:IrV c b mo t E 0 oa s):DyR t (E ++ [some nlO,some nlO]) oa (.sl E.length 0 0 0) (.sl (E.length + 1) 0 0 0) [] []:=by
  have hlt:=h.lt
  refine .inl ⟨E.length,E.length + 1,nlO,nlO,rfl,rfl,by simp,?_,⟨rfl,rfl,rfl,rfl,rfl⟩,⟨rfl,rfl,rfl,rfl,rfl⟩,by omega,by omega,by omega,fun a ha=>?_,rfl,rfl⟩
  · rw [List.getElem?_append_right (by omega),show E.length + 1 - E.length = 1 by omega];rfl
  · have:=hlt.2 a ha;omega
def MR:AM.Obj:=⟨.pi .i64 (List.replicate 19 0),0,some 19,1,true,false,0⟩
theorem sO.done {m0:PM (List Int × List Int)} {α:Type} {m:PM α} {f:α→List Int × List Int} {s1:Is} (h:sO b mo m s1 m0 s f) (hs:fE b mo s1) (he:s1.e ≠ 0) (x:α) (y:List Int × List Int):fO b mo m0 s s1 y:=(h s1 x (fO.stop hs he)).any he
theorem sO.dead {m0:PM (List Int × List Int)} {β:Type} {m':PM β} {g:β→List Int × List Int} {s2:Is} {y0:List Int × List Int} (h:fO b mo m0 s s2 y0) (hs:fE b mo s2) (he:s2.e ≠ 0):sO b mo m' s2 m0 s g:=by
  intro s3 y hy
  have h1:=hy.2
  rw [if_neg he] at h1
  rw [h1]
  exact h.any he
theorem JH {m F:Nat} {E:AM.Heap} (h:IrV c b mo t E 0 oa s) (hs:fE b mo s) (hb:b.length≤100000) (he:s.e = 0) (hF:8 * b.length < F):∃ code,Try.f48.body = some code ∧
    aj (rF fun fr E'=>∃ s' oa' v1 v2 l1 l2,ay fr 2 = v1∧ay fr 3 = v2∧IrV c b mo t E' 0 oa' s'∧(∀ a,oa = some a→oa' = some a)∧DyR t E' oa' v1 v2 l1 l2∧fO b mo (AB b F) s s' (l1,l2)) X (evT X) 48 m code [(0,.ptr 0 0 0 0)] E:=by
  refine ⟨_,rfl,?_⟩
  apply aj.seq (fr':=[(0,.ptr 0 0 0 0)]) (H':=E ++ [some nlO,some nlO])
  · simp only [nlO]
    (refine ⟨0,?_⟩;simp (maxSteps:=2000000) -implicitDefEqProofs [-getElem?_pos,go_sem,eqV,ah,ak,rowOf,bM])
  have hV0:IrV c b mo t (E ++ [some nlO,some nlO]) 0 oa s:=h.cat
  generalize E ++ [some nlO,some nlO] = E0 at *
  obtain ⟨E1,oa1,sa,sb,s1,nl,nd,nc,hV1,r1,r2,r3,b1,b2,b3,k1,hr1⟩:=abv (m:=m) hV0 hs hb
  apply aj.seq (piece hr1 _ rfl)
  have hC1:sO b mo (if 286 < 257 + (nl:Int)∨30 < 1 + (nd:Int) then nK 5 else dG (hcP b (yw.take (4 + nc)) (List.replicate 19 0)) (dyK b F (257 + nl) (1 + nd))) s1 (AB b F) s (fun u=>u):=by
    intro s2 y hy
    have e1:((257 + (nl:Int)) + (1 + (nd:Int))).toNat = (257 + nl) + (1 + nd):=by omega
    have e2:(257 + (nl:Int)).toNat = 257 + nl:=by omega
    have e3:(4 + (nc:Int)).toNat = 4 + nc:=by omega
    unfold AB
    refine r1.toE.bnd (r2.toE.bnd (r3.toE.bnd ?_))
    rw [e1,e2,e3]
    exact hy
  -- the limits
  have hP:∃ E2 oa2 s2,IrV c b mo t E2 0 oa2 s2∧fE b mo s2∧(∀ x,oa = some x→oa2 = some x)∧(s2.e = 0→nl + 257≤286∧nd + 1≤30)∧sO b mo (dG (hcP b (yw.take (4 + nc)) (List.replicate 19 0)) (dyK b F (257 + nl) (1 + nd))) s2 (AB b F) s (fun u=>u) ∧
      ∃ code,((Try.f48.body).bind (aI [1,1,0])) = some code∧∃ fr,Run X (evT X) 48 m code (rZ (257 + nl) (1 + nd) (4 + nc)) E1 ⟨.normal,fr,E2⟩∧aZ [0,4,5,6] fr = rZ (257 + nl) (1 + nd) (4 + nc):=by
    have h2:=abw (m:=m) (nl:=257 + nl) (nd:=1 + nd) (nc:=4 + nc) hV1
    by_cases hx:286 < 257 + nl∨30 < 1 + nd
    · rw [if_pos (by omega)] at hC1
      by_cases he1:s1.e = 0
      · obtain ⟨E2,q1,q2,q3⟩:=lG (e:=5) hV1
        have hf:(fP s1 5).e ≠ 0:=by unfold fP;rw [if_pos he1];simp
        refine ⟨E2,oa1,_,q2,zx r3.1,k1.same,fun h=>absurd h hf,sO.dead (hC1 _ ([],[]) (bV.bad (d:=([],[])) r3.1 (by simp)).toE) (zx r3.1) hf,_,rfl,rZ (257 + nl) (1 + nd) (4 + nc),?_,by simp [rZ,aZ,ay]⟩
        rw [he1,show (decide (286 < 257 + nl) || decide (30 < 1 + nd)) = true by simpa using hx] at h2
        apply Run.seq (piece h2 _ rfl)
        refine Run.cond (d:=true) (by simp [rZ,aJ,ay]) ?_
        simp only [rZ]
        (refine ⟨0,?_⟩;simp (maxSteps:=2000000) -implicitDefEqProofs [-getElem?_pos,go_sem,eqV,ah,q1])
      · refine ⟨E1,oa1,s1,hV1,r3.1,k1.same,fun h=>absurd h he1,sO.dead (hC1 _ ([],[]) (fO.stop r3.1 he1)) r3.1 he1,_,rfl,rZ (257 + nl) (1 + nd) (4 + nc) ++ [(36,.bool false)],?_,by simp [rZ,aZ,ay]⟩
        rw [show (s1.e == 0) = false by simpa using he1,Bool.false_and] at h2
        apply Run.seq (piece h2 _ rfl)
        exact Run.cond (d:=false) (by simp [rZ,aJ,ay]) ⟨0,rfl⟩
    · rw [if_neg (by omega)] at hC1
      refine ⟨E1,oa1,s1,hV1,r3.1,k1.same,fun _=>by omega,hC1,_,rfl,rZ (257 + nl) (1 + nd) (4 + nc) ++ [(36,.bool false)],?_,by simp [rZ,aZ,ay]⟩
      rw [show (decide (286 < 257 + nl) || decide (30 < 1 + nd)) = false by simpa using hx,Bool.and_false] at h2
      apply Run.seq (piece h2 _ rfl)
      exact Run.cond (d:=false) (by simp [rZ,aJ,ay]) ⟨0,rfl⟩
  obtain ⟨E2,oa2,s2,hV2,hs2,hm2,hb2,hC2,oN,Ze,fr2,hr2,hf2⟩:=hP
  apply aj.seq (fr':=fr2) (H':=E2)
  · exact (Option.some.inj Ze) ▸ hr2
  have g0:ay fr2 0 = .ptr 0 0 0 0:=by simpa [aZ,rZ,ay] using congrArg (fun f=>ay f 0) hf2
  have hnl:∃ x,257 + nl = x:=⟨_,rfl⟩
  have hnd:∃ x,1 + nd = x:=⟨_,rfl⟩
  have hnc:∃ x,4 + nc = x:=⟨_,rfl⟩
  obtain ⟨nl',hnl⟩:=hnl
  obtain ⟨nd',hnd⟩:=hnd
  obtain ⟨nc',hnc⟩:=hnc
  rw [hnl,hnd,hnc] at hf2 hC2
  have g4:ay fr2 4 = .int .i64 (nl':Nat):=by simpa [aZ,rZ,ay] using congrArg (fun f=>ay f 4) hf2
  have g5:ay fr2 5 = .int .i64 (nd':Nat):=by simpa [aZ,rZ,ay] using congrArg (fun f=>ay f 5) hf2
  have g6:ay fr2 6 = .int .i64 (nc':Nat):=by simpa [aZ,rZ,ay] using congrArg (fun f=>ay f 6) hf2
  -- the order,the code of lengths
  apply aj.seq (fr':=[(0,.ptr 0 0 0 0),(4,.int .i64 (nl':Nat)),(5,.int .i64 (nd':Nat)),(6,.int .i64 (nc':Nat)),(7,.ptr E2.length 0 0 0)]) (H':=E2 ++ [some (orO 0)])
  · have hol:MQ.length = 19:=rfl
    simp only [orO]
    (refine ⟨0,?_⟩;simp (maxSteps:=2000000) -implicitDefEqProofs [-getElem?_pos,go_sem,eqV,ah,g0,g4,g5,g6,abu,yh,uf,hol])
  apply aj.seq (fr':=[(0,.ptr 0 0 0 0),(4,.int .i64 (nl':Nat)),(5,.int .i64 (nd':Nat)),(6,.int .i64 (nc':Nat)),(7,.ptr E2.length 0 0 0),(8,.sl (E2.length + 1) 0 19 0)]) (H':=E2 ++ [some (orO 0),some MR])
  · simp only [MR]
    (refine ⟨0,?_⟩;simp (maxSteps:=2000000) -implicitDefEqProofs [-getElem?_pos,go_sem,eqV,ah,kR,nZ,eF,scalars,aB,aU,rowOf,ak])
  apply aj.assoc
  apply aj.seq (fr':=uO E2.length (E2.length + 1) nl' nd' nc' 0) (H':=E2 ++ [some (orO 0),some MR])
  · simp only [uO]
    (refine ⟨0,?_⟩;simp (maxSteps:=2000000) -implicitDefEqProofs [-getElem?_pos,go_sem,eqV,ah])
  have hlt2:=hV2.lt
  have aiB:IrV c b mo t (E2 ++ [some (orO 0),some MR]) 0 oa2 s2:=hV2.cat
  have hL:=Xv (m:=m) (p7:=E2.length) (p8:=E2.length + 1) (nl:=nl') (nd:=nd') (nc:=nc') (F:=F) (cl0:=List.replicate 19 0) (ob0:=MR) (τ7:=0) aiB hs2 hb (by simp) (by rw [List.getElem?_append_right (by omega),show E2.length + 1 - E2.length = 1 by omega];rfl) ⟨rfl,rfl,rfl,rfl,rfl⟩ (by simp) (by omega) (by omega) (by omega) (by omega) (fun a ha=>by have:=hlt2.2 a ha;omega) (fun a ha=>by have:=hlt2.2 a ha;omega) hC2
  apply aj.andThen (piece hL _ rfl)
  rintro fr E3 ⟨oa3,s3,cl,ob,rfl,hV3,hs3,hm3,hE8,hw8,hcl,ho8,hee,hC3⟩
  have aiC:E2.length + 1 ≠ 0:=by omega
  generalize E2.length + 1 = p8 at *
  generalize E2.length = p7 at *
  -- is there an error?
  obtain ⟨⟨vo,τ1,τr,a1,a2,h0,hou⟩,hne0⟩:=id hV3
  simp only [bF] at h0
  have hms:∀ x,oa = some x→oa3 = some x:=fun x hx=>hm3 x (hm2 x hx)
  by_cases he3:¬ s3.e = 0
  · have heb:(s3.e != 0) = true:=by simpa using he3
    refine aj.of (o:=⟨.ret,[(2,.sl E3.length 0 0 0),(3,.sl (E3.length + 1) 0 0 0)],E3 ++ [some nlO,some nlO]⟩) ?_ ⟨rfl,s3,oa3,_,_,[],[],rfl,rfl,hV3.cat,hms,OT hV3,hC3.done hs3 he3 ([],[]) _⟩
    refine ⟨0,?_⟩
    simp only [uO,nlO]
    simp (maxSteps:=2000000) -implicitDefEqProofs [-getElem?_pos,go_sem,eqV,ah,h0,heb,he3,ak,rowOf,bM]
  have he3:s3.e = 0:=Classical.not_not.1 he3
  rw [he3] at h0
  apply aj.seq (fr':=[(0,.ptr 0 0 0 0),(4,.int .i64 (nl':Nat)),(5,.int .i64 (nd':Nat)),(8,.sl p8 0 19 0),(57,.bool false)]) (H':=E3)
  · simp only [uO]
    (refine ⟨0,?_⟩;simp (maxSteps:=2000000) -implicitDefEqProofs [-getElem?_pos,go_sem,eqV,ah,h0])
  have hpay:eG E3 (.sl p8 0 19 0) = some (.pi .i64 cl):=by
    have:=mD (off:=0) (n:=19) hE8 hw8 (by omega)
    rwa [List.drop_zero,List.take_of_length_le (by omega)] at this
  have abz:=JI hpay (by omega)
  obtain ⟨w,e,hrw⟩:∃ w e,bn cl = (w,e):=⟨_,_,rfl⟩
  rw [hrw] at abz
  apply aj.assoc
  apply aj.seq (fr':=[(0,.ptr 0 0 0 0),(4,.int .i64 (nl':Nat)),(5,.int .i64 (nd':Nat)),(8,.sl p8 0 19 0),(10,.bool w),(11,.int .i64 e)]) (H':=E3)
  · (refine ⟨0,?_⟩;simp (maxSteps:=2000000) -implicitDefEqProofs [-getElem?_pos,go_sem,eqV,ah,abz,ak])
  apply aj.assoc
  apply aj.seq (fr':=[(0,.ptr 0 0 0 0),(4,.int .i64 (nl':Nat)),(5,.int .i64 (nd':Nat)),(8,.sl p8 0 19 0),(68,.bool (e != 0 || !w))]) (H':=E3)
  · by_cases h1:e = 0
    · subst h1
      cases w <;> (refine ⟨0,?_⟩;simp (maxSteps:=2000000) -implicitDefEqProofs [-getElem?_pos,go_sem,eqV,ah])
    · have h1b:(e != 0) = true:=by simpa using h1
      rw [h1b]
      (refine ⟨0,?_⟩;simp (maxSteps:=2000000) -implicitDefEqProofs [-getElem?_pos,go_sem,eqV,ah,h1,h1b])
  by_cases hrc:¬ (w = true∧e = 0)
  · -- it may not be
    obtain ⟨E4,q1,q2,q3⟩:=lG (e:=5) hV3
    have hf:(fP s3 5).e ≠ 0:=by unfold fP;rw [if_pos he3];simp
    have hcd:(e != 0 || !w) = true:=by
      by_cases h1:e = 0
      · subst h1
        cases w
        · rfl
        · exact absurd ⟨rfl,rfl⟩ hrc
      · rw [show (e != 0) = true by simpa using h1];rfl
    rw [hcd]
    refine aj.of (o:=⟨.ret,[(2,.sl E4.length 0 0 0),(3,.sl (E4.length + 1) 0 0 0)],E4 ++ [some nlO,some nlO]⟩) ?_ ⟨rfl,_,oa3,_,_,[],[],rfl,rfl,q2.cat,hms,OT q2,hC3 _ ([],[]) ?_⟩
    · refine ⟨0,?_⟩
      simp only [nlO]
      simp (maxSteps:=2000000) -implicitDefEqProofs [-getElem?_pos,go_sem,eqV,ah,q1,ak,rowOf,bM]
    · unfold dyK
      rw [if_neg (by rw [hrw];intro h;exact hrc ⟨(Prod.mk.inj h).1,(Prod.mk.inj h).2⟩)]
      exact (bV.bad (d:=([],[])) hs3 (by simp)).toE
  obtain ⟨rfl,rfl⟩:w = true∧e = 0:=Classical.not_not.1 hrc
  apply aj.seq (fr':=[(0,.ptr 0 0 0 0),(4,.int .i64 (nl':Nat)),(5,.int .i64 (nd':Nat)),(8,.sl p8 0 19 0),(68,.bool false)]) (H':=E3)
  · refine ⟨0,?_⟩
    simp (maxSteps:=2000000) -implicitDefEqProofs [-getElem?_pos,go_sem,eqV,ah]
  have hC4:sO b mo (dG (uj b cl (nl' + nd') F []) fun a=>if (zk (a.take nl') && zn (a.drop nl')) = true then nJ (a.take nl',a.drop nl') else nK 5) s3 (AB b F) s (fun u=>u):=by
    intro s4 y hy
    refine hC3 s4 y ?_
    unfold dyK
    rw [if_pos hrw]
    exact hy
  obtain ⟨E4,oa4,s4,acc,v,la,h4,hV4,hL4,r4,k4,abA⟩:=N9 (a:=.sl p8 0 19 0) (L:=cl) (N:=nl' + nd') (F:=F) hV3 hs3 hb he3 (by omega) hF (by omega) hpay (by
    intro x hx
    simp [slO] at hx
    subst hx
    exact ⟨aiC,ho8⟩)
  have hC5:=hC4.step r4
  have abB:∀ x,oa = some x→oa4 = some x:=fun x hx=>k4.same x (hms x hx)
  have w1:IntKind.i64.wrap ((nl':Int) + (nd':Int)) = ((nl' + nd':Nat):Int):=by rw [wrap_i64 (by omega) (by omega)];omega
  have aiD:∃ E5 v5,IrV c b mo t E5 0 oa4 s4∧(∀ a,la = some a→v5 = v∧E5 = E4)∧∃ code,((Try.f48.body).bind (aI [1,1,1,1,1,1,1,1,0])) = some code∧Run X (evT X) 48 m code [(0,.ptr 0 0 0 0),(4,.int .i64 (nl':Nat)),(5,.int .i64 (nd':Nat)),(8,.sl p8 0 19 0),(68,.bool false)] E3 ⟨.normal,[(0,.ptr 0 0 0 0),(4,.int .i64 (nl':Nat)),(12,v5)],E5⟩:=by
    cases la with
    | some a =>
      obtain ⟨g,τ,ob,_,rfl,_⟩:=hL4
      refine ⟨E4,_,hV4,fun _ _=>⟨rfl,rfl⟩,_,rfl,?_⟩
      generalize nl' + nd' = N at *
      generalize acc.length = M at *
      (refine ⟨0,?_⟩;simp (maxSteps:=2000000) -implicitDefEqProofs [-getElem?_pos,go_sem,eqV,ah,w1,h4,ak])
    | none =>
      obtain ⟨_,τ,_,rfl⟩:=hL4
      by_cases h0:τ = 0
      · subst h0
        refine ⟨E4 ++ [some nlO],.sl E4.length 0 0 0,hV4.cat,(fun _ h=>by cases h),_,rfl,?_⟩
        generalize nl' + nd' = N at *
        simp only [nlO]
        (refine ⟨0,?_⟩;simp (maxSteps:=2000000) -implicitDefEqProofs [-getElem?_pos,go_sem,eqV,ah,w1,h4,ak,rowOf,bM])
      · refine ⟨E4,.ro 0 .pn τ,hV4,(fun _ h=>by cases h),_,rfl,?_⟩
        generalize nl' + nd' = N at *
        (refine ⟨0,?_⟩;simp (maxSteps:=2000000) -implicitDefEqProofs [-getElem?_pos,go_sem,eqV,ah,w1,h4,ak,h0])
  obtain ⟨E5,v5,hV5,hsame,Xw⟩:=aiD
  apply aj.seq (piece Xw _ rfl)
  by_cases he4:¬ s4.e = 0
  · -- too short,or bad
    obtain ⟨⟨vo5,τ5,τr5,a5,a6,h05,aiE⟩,hne5⟩:=id hV5
    simp only [bF] at h05
    have heb:(s4.e != 0) = true:=by simpa using he4
    refine aj.of (o:=⟨.ret,[(2,.sl E5.length 0 0 0),(3,.sl (E5.length + 1) 0 0 0)],E5 ++ [some nlO,some nlO]⟩) ?_ ⟨rfl,s4,oa4,_,_,[],[],rfl,rfl,hV5.cat,abB,OT hV5,hC5.done r4.1 he4 ([],[]) _⟩
    refine ⟨0,?_⟩
    simp only [nlO]
    simp (maxSteps:=2000000) -implicitDefEqProofs [-getElem?_pos,go_sem,eqV,ah,h05,heb,he4,ak,rowOf,bM]
  have he4:s4.e = 0:=Classical.not_not.1 he4
  obtain ⟨anF,abC⟩:nl'≤286∧nd'≤30:=by
    have:=hb2 (hee he3)
    omega
  have hal:acc.length = nl' + nd':=QB (r4.fine he4).2 (by simp)
  cases la with
  | none =>
    obtain ⟨h1,_⟩:=hL4
    rw [h1] at hal
    simp at hal
    omega
  | some a =>
    obtain ⟨g,τ,ob,hτ,rfl,ha,hw⟩:=hL4
    obtain ⟨q1,q2,q3⟩:=abA a rfl
    obtain ⟨rfl,rfl⟩:=hsame a rfl
    obtain ⟨⟨vo5,τ5,τr5,a5,a6,h05,aiE⟩,hne5⟩:=id hV4
    simp only [bF] at h05
    rw [he4] at h05
    apply aj.seq (fr':=[(0,.ptr 0 0 0 0),(4,.int .i64 (nl':Nat)),(12,.sl a 0 acc.length g),(81,.bool false)]) (H':=E5)
    · generalize acc.length = N at *
      (refine ⟨0,?_⟩;simp (maxSteps:=2000000) -implicitDefEqProofs [-getElem?_pos,go_sem,eqV,ah,h05])
    apply aj.seq (piece (Zd (m:=m) (nd:=nd') ha hw rfl (by omega)) _ rfl)
    have hkk:acc.length - nl' = nd':=by omega
    rw [hkk]
    have hp1:∀ E,E[a]? = some (some ob)→eG E (.sl a 0 nl' g) = some (.pi .i64 (acc.take nl')):=fun E h=>by simpa using mD (off:=0) h hw (by omega)
    have hp2:∀ E,E[a]? = some (some ob)→eG E (.sl a nl' nd' g) = some (.pi .i64 (acc.drop nl')):=fun E h=>by
      have:=mD (off:=nl') (n:=nd') h hw (by omega)
      rwa [List.take_of_length_le (by simp;omega)] at this
    have hc1:=JI (hp1 _ ha) (by rw [List.length_take];omega)
    apply aj.seq (fr':=kJ a nl' nd' g ++ [(13,.bool (bn (acc.take nl')).1),(14,.int .i64 (bn (acc.take nl')).2)]) (H':=E5)
    · generalize bn (acc.take nl') = rc at *
      simp only [kJ]
      (refine ⟨0,?_⟩;simp (maxSteps:=2000000) -implicitDefEqProofs [-getElem?_pos,go_sem,eqV,ah,hc1,ak])
    have h22:=Y9 (m:=m) (k:=nd') ha hw (n:=nl') (by omega) (by omega) (by omega)
    -- the first code
    have hP:∃ E6 s6,IrV c b mo t E6 0 oa4 s6∧fE b mo s6∧E6[a]? = some (some ob)∧s6 = (if zk (acc.take nl') = true then s4 else fP s4 5)∧∃ code,((Try.f48.body).bind (aI [1,1,1,1,1,1,1,1,1,1,1,1,0])) = some code∧∃ fr,Run X (evT X) 48 m code (kJ a nl' nd' g ++ [(13,.bool (bn (acc.take nl')).1),(14,.int .i64 (bn (acc.take nl')).2)]) E5 ⟨.normal,fr,E6⟩∧aZ [0,2,3] fr = kJ a nl' nd' g:=by
      cases hok:zk (acc.take nl') with
      | true =>
        refine ⟨E5,s4,hV5,r4.1,ha,by simp,_,rfl,kJ a nl' nd' g ++ [(109,.bool false)],?_,by simp [kJ,aZ,ay]⟩
        rw [hok] at h22
        apply Run.seq (piece h22 _ rfl)
        exact Run.cond (d:=false) (by simp [kJ,aJ,ay]) ⟨0,rfl⟩
      | false =>
        obtain ⟨E6,g1,g2,g3⟩:=lG (e:=5) hV5
        refine ⟨E6,fP s4 5,g2,zx r4.1,by rw [(kept g3 (eP ha) q2 q3).1];exact ha,by simp,_,rfl,kJ a nl' nd' g,?_,by simp [kJ,aZ,ay]⟩
        rw [hok] at h22
        apply Run.seq (piece h22 _ rfl)
        refine Run.cond (d:=true) (by simp [kJ,aJ,ay]) ?_
        simp only [kJ]
        (refine ⟨0,?_⟩;simp (maxSteps:=2000000) -implicitDefEqProofs [-getElem?_pos,go_sem,eqV,ah,g1])
    obtain ⟨E6,s6,hV6,hs6,ha6,he6,al5,Zf,fr6,hr6,hf6⟩:=hP
    apply aj.seq (fr':=fr6) (H':=E6)
    · exact (Option.some.inj Zf) ▸ hr6
    have g0':ay fr6 0 = .ptr 0 0 0 0:=by simpa [aZ,kJ,ay] using congrArg (fun f=>ay f 0) hf6
    have g2':ay fr6 2 = .sl a 0 nl' g:=by simpa [aZ,kJ,ay] using congrArg (fun f=>ay f 2) hf6
    have g3':ay fr6 3 = .sl a nl' nd' g:=by simpa [aZ,kJ,ay] using congrArg (fun f=>ay f 3) hf6
    have hc2:=JI (hp2 _ ha6) (by rw [List.length_drop];omega)
    apply aj.seq (fr':=kJ a nl' nd' g ++ [(13,.bool (bn (acc.drop nl')).1),(14,.int .i64 (bn (acc.drop nl')).2)]) (H':=E6)
    · generalize bn (acc.drop nl') = rc at *
      simp only [kJ]
      (refine ⟨0,?_⟩;simp (maxSteps:=2000000) -implicitDefEqProofs [-getElem?_pos,go_sem,eqV,ah,g0',g2',g3',hc2,ak])
    have h25:=Zc (m:=m) ha6 hw (n:=nl') (k:=nd') (by omega)
    -- the second
    have hP2:∃ E7 s7,IrV c b mo t E7 0 oa4 s7∧E7[a]? = some (some ob)∧s7 = (if zn (acc.drop nl') = true then s6 else fP s6 5)∧∃ code,((Try.f48.body).bind (aI [1,1,1,1,1,1,1,1,1,1,1,1,1,1,0])) = some code∧∃ fr,Run X (evT X) 48 m code (kJ a nl' nd' g ++ [(13,.bool (bn (acc.drop nl')).1),(14,.int .i64 (bn (acc.drop nl')).2)]) E6 ⟨.normal,fr,E7⟩∧aZ [2,3] fr = [(2,.sl a 0 nl' g),(3,.sl a nl' nd' g)]:=by
      cases hok:zn (acc.drop nl') with
      | true =>
        refine ⟨E6,s6,hV6,ha6,by simp,_,rfl,kJ a nl' nd' g ++ [(132,.bool false)],?_,by simp [kJ,aZ,ay]⟩
        rw [hok] at h25
        apply Run.seq (piece h25 _ rfl)
        exact Run.cond (d:=false) (by simp [kJ,aJ,ay]) ⟨0,rfl⟩
      | false =>
        obtain ⟨E7,g1,g2,g3⟩:=lG (e:=5) hV6
        refine ⟨E7,fP s6 5,g2,by rw [(kept g3 (eP ha6) q2 q3).1];exact ha6,by simp,_,rfl,[(2,.sl a 0 nl' g),(3,.sl a nl' nd' g)],?_,by simp [aZ,ay]⟩
        rw [hok] at h25
        apply Run.seq (piece h25 _ rfl)
        refine Run.cond (d:=true) (by simp [kJ,aJ,ay]) ?_
        simp only [kJ]
        (refine ⟨0,?_⟩;simp (maxSteps:=2000000) -implicitDefEqProofs [-getElem?_pos,go_sem,eqV,ah,g1])
    obtain ⟨E7,s7,hV7,ha7,he7,al6,Zg,fr7,hr7,hf7⟩:=hP2
    apply aj.seq (fr':=fr7) (H':=E7)
    · exact (Option.some.inj Zg) ▸ hr7
    have k2':ay fr7 2 = .sl a 0 nl' g:=by simpa [aZ,ay] using congrArg (fun f=>ay f 2) hf7
    have k3':ay fr7 3 = .sl a nl' nd' g:=by simpa [aZ,ay] using congrArg (fun f=>ay f 3) hf7
    refine aj.of (o:=⟨.ret,[(2,.sl a 0 nl' g),(3,.sl a nl' nd' g)],E7⟩) ?_ ⟨rfl,s7,oa4,_,_,acc.take nl',acc.drop nl',rfl,rfl,hV7,abB,.inr ⟨a,nl',nd',g,τ,ob,acc,rfl,rfl,hτ,ha7,hw,q2,q3,by omega,by omega,rfl,rfl⟩,?_⟩
    · refine ⟨0,?_⟩
      simp (maxSteps:=2000000) -implicitDefEqProofs [-getElem?_pos,go_sem,eqV,ah,k2',k3',ak]
    · refine hC5 _ _ ?_
      rw [he7,he6]
      have hff:fP (fP s4 5) 5 = fP s4 5:=by
        unfold fP
        rw [if_pos he4]
        simp
      cases zk (acc.take nl') <;> cases zn (acc.drop nl')
      · simp only [Bool.false_eq_true,if_false,Bool.and_self,hff]
        exact (bV.bad (d:=(acc.take nl',acc.drop nl')) r4.1 (by simp)).toE
      · simp only [Bool.false_eq_true,if_false,if_true,Bool.and_true]
        exact (bV.bad (d:=(acc.take nl',acc.drop nl')) r4.1 (by simp)).toE
      · simp only [Bool.false_eq_true,if_false,if_true,Bool.and_false]
        exact (bV.bad (d:=(acc.take nl',acc.drop nl')) r4.1 (by simp)).toE
      · simp only [if_true,Bool.and_self]
        exact (bV.ret (d:=(acc.take nl',acc.drop nl')) r4.1 fun _=>rfl).toE
end
end Go.Proofs.Yteblpjhkgdpchaa
namespace Go.Proofs.Yteblpjhkgdpchaa
open Go.AM
section
variable {c:Nat} {b:List UInt8} {mo:Int} {t:Nat} {H:AM.Heap} {o:Nat} {oa:Option Nat} {s:Is}
def DyQ (b:List UInt8) (mo:Int) (F:Nat) (s s':Is) (w0:AV) (ps:List AV):Prop :=
  ∃ l1 l2,fO b mo (AB b F) s s' (l1,l2) ∧
    ((ps = [.pi .i64 [],.pi .i64 []]∧w0 = .tup [.sl 0 0 0 0,.sl 1 0 0 0]∧l1 = []∧l2 = []) ∨
     (∃ acc n k,ps = [.pi .i64 acc]∧w0 = .tup [.sl 0 0 n 0,.sl 0 n k 0]∧n + k = acc.length∧acc.length≤400∧l1 = acc.take n∧l2 = acc.drop n))
theorem OU {F:Nat} (h:IrV c b mo t H o oa s) (hs:fE b mo s) (hb:b.length≤100000) (he:s.e = 0) (hF:8 * b.length < F) :
    ∃ H' oa' s' v1 v2 l1 l2,evT X 48 [.ptr o 0 0 0] H = some (.tup [v1,v2],H')∧IrV c b mo t H' o oa' s'∧fO b mo (AB b F) s s' (l1,l2)∧Kpt H H' o oa oa' ∧
      eG H' v1 = some (.pi .i64 l1)∧eG H' v2 = some (.pi .i64 l2)∧l1.length≤400∧l2.length≤400∧(∀ x,x ∈ slO v1∨x ∈ slO v2→H.length≤x∧x ≠ o∧∀ y,oa' = some y→x ≠ y)∧(∃ x i n g,v1 = .sl x i n g)∧(∃ x i n g,v2 = .sl x i n g):=by
  obtain ⟨code,hc⟩:∃ code,Try.f48.body = some code:=⟨_,rfl⟩
  obtain ⟨H',oa',s',w0,ex,ps,τf,hE,hτ,hV,hR,hnew,hnd,⟨l1,l2,hrun,hw⟩,hk⟩:=AU (f:=48) (n:=2) (xs:=[]) (ys:=[]) (Q:=DyQ b mo F s)
    Try.func48 hc rfl h (fun π K hπ=>fD.nil) rfl rfl (by simp [dM]) (by
      intro m E oa1 _ _ _ hE
      obtain ⟨oN,hc2,ht⟩:=JH (m:=m) (F:=F) hE hs hb he hF
      refine ⟨oN,hc2,?_⟩
      rw [aa5]
      refine ht.mono ?_
      rintro out ⟨ho1,s',oa',v1,v2,l1,l2,g1,g2,q2,q4,q3,q6⟩
      refine ⟨.inr ho1,?_⟩
      have hne:=q2.ne
      rcases q3 with ⟨x,y,o1,o2,rfl,rfl,hx,hy,w1,w2,n1,n2,n3,n4,rfl,rfl⟩ | ⟨a,n,k,g,τ,ob,acc,rfl,rfl,hτ,ha,hw,n1,n2,n3,n4,rfl,rfl⟩
      · refine ⟨s',oa',[.sl x 0 0 0,.sl y 0 0 0],[(x,0),(y,0)],[.pi .i64 [],.pi .i64 []],.tup [.sl 0 0 0 0,.sl 1 0 0 0],?_,q2,q4,⟨⟨0,o1,.inl rfl,hx,w1⟩,⟨0,o2,.inl rfl,hy,w2⟩,trivial⟩,?_,?_,by simp [ids,aB],by simp [ids,aB],?_,by simp [tags,aU],by simp [aO,ren,bg,eu,fG],[],[],q6,.inl ⟨rfl,rfl,rfl,rfl⟩⟩
        · show aQ X out.fr out.H [.tmp 2,.tmp 3] = _
          simp [aQ,g1,g2]
        · intro p hp
          simp at hp
          subst hp
          exact ⟨rfl,rfl⟩
        · cases oa' with
          | none=>simp;omega
          | some z =>
            have h1:=hne z rfl
            have h2:=n4 z rfl
            simp;omega
        · intro k hk
          simp at hk
          simp [ids,aB]
          omega
      · refine ⟨s',oa',[.sl a 0 n g,.sl a n k g],[(a,g)],[.pi .i64 acc],.tup [.sl 0 0 n 0,.sl 0 n k 0],?_,q2,q4,⟨⟨τ,ob,hτ,ha,hw⟩,trivial⟩,?_,?_,by simp [ids,aB],by simp [ids,aB],by simp [ids,aB],by simp [tags,aU],by simp [aO,ren,bg,eu,fG],_,_,q6,.inr ⟨acc,n,k,rfl,rfl,n3,n4,rfl,rfl⟩⟩
        · show aQ X out.fr out.H [.tmp 2,.tmp 3] = _
          simp [aQ,g1,g2]
        · intro p hp
          simp at hp
          subst hp
          exact ⟨rfl,rfl⟩
        · cases oa' with
          | none=>simp;omega
          | some z =>
            have h1:=hne z rfl
            have h2:=n2 z rfl
            simp;omega)
  rcases hw with ⟨rfl,rfl,rfl,rfl⟩ | ⟨acc,n,k,rfl,rfl,h3,h4,rfl,rfl⟩
  · match ex,hR with
    | [(x,g),(y,g2)],hR =>
      obtain ⟨⟨τ4,ob,h4,h5,h6⟩,⟨τ5,ob2,h7,h8,h9⟩,_⟩:=hR
      refine ⟨H',oa',s',.sl x 0 0 g,.sl y 0 0 g2,[],[],by simpa [ren,bg,eu] using hE,hV,hrun,hk,?_,?_,by simp,by simp,?_,⟨_,_,_,_,rfl⟩,⟨_,_,_,_,rfl⟩⟩
      · simpa using mD (off:=0) (n:=0) h5 h6 (by simp)
      · simpa using mD (off:=0) (n:=0) h8 h9 (by simp)
      · intro z hz
        have hz':z = x∨z = y:=by simpa [slO] using hz
        have hl:H.length≤z:=by
          rcases hz' with rfl | rfl
          · exact hnew (z,g) (by simp)
          · exact hnew (z,g2) (by simp)
        refine ⟨hl,?_,?_⟩
        · intro e
          subst e
          rcases hz' with rfl | rfl <;> simp at hnd
        · intro w hw e
          subst hw e
          rcases hz' with rfl | rfl <;> simp at hnd
  · match ex,hR with
    | [(x,g)],hR =>
      obtain ⟨⟨τ4,ob,h4',h5,h6⟩,_⟩:=hR
      refine ⟨H',oa',s',.sl x 0 n g,.sl x n k g,_,_,by simpa [ren,bg,eu] using hE,hV,hrun,hk,?_,?_,by rw [List.length_take];omega,by rw [List.length_drop];omega,?_,⟨_,_,_,_,rfl⟩,⟨_,_,_,_,rfl⟩⟩
      · simpa using mD (off:=0) (n:=n) h5 h6 (by omega)
      · have:=mD (off:=n) (n:=k) h5 h6 (by omega)
        rwa [List.take_of_length_le (by simp;omega)] at this
      · intro z hz
        have hz':z = x:=by simpa [slO] using hz
        subst hz'
        refine ⟨hnew (z,g) (by simp),?_,?_⟩
        · intro e
          subst e
          simp at hnd
        · intro w hw e
          subst hw e
          simp at hnd
end
end Go.Proofs.Yteblpjhkgdpchaa
namespace Go.Proofs.Yteblpjhkgdpchaa
open Go.AM
theorem fO.pure {α:Type} {b:List UInt8} {mo:Int} {s:Is} (g:Nat→List UInt8→α) (hs:fE b mo s):fO b mo (fun k o=>.ok (g k o) k o) s s (g s.k s.o):=by
  refine ⟨hs,?_⟩
  by_cases he:s.e = 0
  · rw [if_pos he]
    exact ⟨by rw [← he],rfl⟩
  · rw [if_neg he]
def bkR (kind:Int) (last:Bool) (k:Nat) (n:Int):AV:=.pc [.int .i64 kind,.bool last,.int .i64 (k:Nat),.int .i64 n]
def bkO (kind:Int) (last:Bool) (k:Nat) (n:Int):AM.Obj:=⟨bkR kind last k n,0,some 4,1,false,true,0⟩
def bkT (x:Blk):AV:=bkR x.kind x.last x.k (x.n:Nat)
def LkV (H:AM.Heap) (la:Option Nat) (v:AV) (R:List AV):Prop:=(∀ p ∈ R,ids p = []∧tags p = [])∧match la with
  | none=>R = []∧v = .ro 0 .pn 0
  | some a=>∃ g ob,v = .sl a 0 R.length g∧H[a]? = some (some ob)∧Rw (.pr 4 R) g ob
theorem LkV.keep {H H':AM.Heap} {la:Option Nat} {v:AV} {R:List AV} (h:LkV H la v R) (hk:∀ a,la = some a→H'[a]? = H[a]?):LkV H' la v R:=by
  obtain ⟨h0,h1⟩:=h
  refine ⟨h0,?_⟩
  cases la with
  | none=>exact h1
  | some a =>
    obtain ⟨g,ob,h2,h3,h4⟩:=h1
    exact ⟨g,ob,h2,by rw [hk a rfl];exact h3,h4⟩
theorem LkV.lt {H:AM.Heap} {la:Option Nat} {v:AV} {R:List AV} (h:LkV H la v R):∀ a,la = some a→a < H.length:=by
  rintro a rfl
  obtain ⟨_,g,ob,_,h3,_⟩:=h
  exact eP h3
theorem LkV.app {H:AM.Heap} {la:Option Nat} {v:AV} {R:List AV} {kind:Int} {last:Bool} {k:Nat} {n:Int} (h:LkV H la v R) (hR:R.length≤10000000):∃ v' H' la',dw X H 53 v (.ro 1 (.pr 4 [bkR kind last k n]) 0) = some (v',H')∧LkV H' la' v' (R ++ [bkR kind last k n])∧H.length≤H'.length∧(∀ j,j < H.length→la ≠ some j→H'[j]? = H[j]?)∧(∀ a,la = some a→la' = some a)∧(la = none→la' = some H.length):=by
  obtain ⟨hf,h⟩:=h
  have hf':∀ p ∈ R ++ [bkR kind last k n],ids p = []∧tags p = []:=by
    intro p hp
    rcases List.mem_append.1 hp with hp | hp
    · exact hf p hp
    · rw [List.mem_singleton.1 hp];exact ⟨rfl,rfl⟩
  cases la with
  | none =>
    obtain ⟨rfl,rfl⟩:=h
    refine ⟨.sl H.length 0 1 0,H ++ [some ⟨.pr 4 [bkR kind last k n],0,none,0,true,false,0⟩],some H.length,?_,⟨hf',0,⟨.pr 4 [bkR kind last k n],0,none,0,true,false,0⟩,rfl,by simp,⟨rfl,rfl,rfl,rfl,rfl⟩⟩,by simp,fun j hj _=>List.getElem?_append_left hj,fun a h=>(by cases h),fun _=>rfl⟩
    have hE:bM X 68 = .pr 4 []:=by kernel_rfl
    simp only [dw,aa9,Y3,abb]
    simp [mO,ql,ah,sF,gB,rM,hE,aN,bkR,aU,tags,dU]
  | some a =>
    obtain ⟨g,ob,rfl,h3,h4⟩:=h
    obtain ⟨ob',hw',hA⟩:=MS (C:=X) (T:=53) (e:=68) (es:=4) (H:=H) (o:=a) (m:=[bkR kind last k n]) (src:=.ro 1 (.pr 4 [bkR kind last k n]) 0) (by simp) (by simp) (by omega) (by simp) (by simp) h3 h4 rfl (by simp;omega)
    refine ⟨_,_,some a,hA,⟨hf',g + 1,ob',by simp,setAt h3,hw'⟩,by simp [AM.upd],fun j hj hne=>by unfold AM.upd;rw [List.getElem?_set_ne (fun e=>hne (by rw [e]))],fun x h=>h,fun h=>by cases h⟩
section
variable {c:Nat} {b:List UInt8} {mo:Int} {t:Nat} {H:AM.Heap} {o:Nat} {oa:Option Nat} {s:Is}
theorem Kpt.OV {E E1:AM.Heap} {oa1:Option Nat} {p:Nat} {x:Option AM.Obj} (h:Kpt E E1 0 oa oa1) (hp:E.length≤p):Kpt E (AM.upd E1 p x) 0 oa oa1 where
  len:=by have:=h.len;simpa [AM.upd] using this
  same:=h.same
  new:=h.new
  rest:=fun j hj h1 h2=>by unfold AM.upd;rw [List.getElem?_set_ne (by omega)];exact h.rest j hj h1 h2
theorem Kpt.head {E r E1:AM.Heap} {oa1:Option Nat} (h:Kpt (E ++ r) E1 0 oa oa1):Kpt E E1 0 oa oa1:=(Kpt.cat r).trans h
def tH (v:AV) (p n0:Nat):AM.Frame:=[(0,.ptr 0 0 0 0),(3,v),(5,.ptr p 0 0 0),(6,.int .i64 (n0:Nat))]
theorem Xx {m F p n0 y:Nat} {v:AV} {E:AM.Heap} (h:IrV c b mo t E 0 oa s) (hs:fE b mo s) (hb:b.length≤100000) (hm:mo≤1000000) (he:s.e = 0) (hF:8 * b.length < F) (hy:y < 4) :
    ∃ E' oa' s',IrV c b mo t E' 0 oa' s'∧fO b mo (F6 b mo F (y:Nat)) s s' ()∧Kpt E E' 0 oa oa'∧∃ code,((Try.f29.body).bind (aI [1,1,0,1,0,0,1,0,1,1,1,1,1,0,1])) = some code ∧
      Run X (evT X) 29 m code (tH v p n0 ++ [(41,.int .i64 (y:Nat))]) E ⟨.normal,tH v p n0,E'⟩:=by
  have hd:y = 0∨y = 1∨y = 2∨y = 3:=by omega
  have hlt:=h.lt
  simp only [tH]
  rcases hd with rfl | rfl | rfl | rfl
  · obtain ⟨E',oa',s',g1,g2,g3,g4⟩:=Rf h hs he hb hm
    refine ⟨E',oa',s',g2,?_,g4,_,rfl,?_⟩
    · exact g3.toE
    · (refine ⟨0,?_⟩;simp (maxSteps:=2000000) -implicitDefEqProofs [-getElem?_pos,go_sem,eqV,ah,g1,ak])
  · have hx:=WR E
    obtain ⟨E',oa',s',g1,g2,g3,g4⟩:=KW (F:=F) (ll:=zo) (dl:=yx) (a:=.sl E.length 0 288 0) (a2:=.sl (E.length + 1) 0 32 0) (h.cat (r:=[some (Bc zo),some (Bc yx)])) hs hb hm hF
      (by
        have:zo.length = 288:=rfl
        have:=mD (E:=E ++ [some (Bc zo),some (Bc yx)]) (a:=E.length) (ob:=Bc zo) (off:=0) (n:=288) (acc:=zo) (g:=0) (τ:=0) (by simp) ⟨rfl,rfl,rfl,rfl,rfl⟩ (by omega)
        rwa [List.drop_zero,List.take_of_length_le (by omega)] at this)
      (by
        intro x hx
        have:x = E.length:=by simpa [slO] using hx
        subst this
        exact ⟨by omega,fun y hy=>by have:=hlt.2 y hy;omega⟩)
      (by
        have:yx.length = 32:=rfl
        have:=mD (E:=E ++ [some (Bc zo),some (Bc yx)]) (a:=E.length + 1) (ob:=Bc yx) (off:=0) (n:=32) (acc:=yx) (g:=0) (τ:=0) (by simp) ⟨rfl,rfl,rfl,rfl,rfl⟩ (by omega)
        rwa [List.drop_zero,List.take_of_length_le (by omega)] at this)
      (by
        intro x hx
        have:x = E.length + 1:=by simpa [slO] using hx
        subst this
        exact ⟨by omega,fun y hy=>by have:=hlt.2 y hy;omega⟩) (by show 288 < _;omega) (by show 32 < _;omega)
    refine ⟨E',oa',s',g2,?_,g4.head,_,rfl,?_⟩
    · exact g3.toE
    · (refine ⟨0,?_⟩;simp (maxSteps:=2000000) -implicitDefEqProofs [-getElem?_pos,go_sem,eqV,ah,hx,g1,ak])
  · obtain ⟨E1,oa1,s1,v1,v2,l1,l2,g1,g2,g3,g4,g5,g6,g7,g8,g9,⟨w1,w2,w3,w4,rfl⟩,w5,w6,w7,w8,rfl⟩:=OU (F:=F) h hs hb he hF
    obtain ⟨E',oa',s',k1,k2,k3,k4⟩:=KW (F:=F) (ll:=l1) (dl:=l2) g2 g3.1 hb hm hF g5 (fun x hx=>(g9 x (.inl hx)).2) g6 (fun x hx=>(g9 x (.inr hx)).2) (by omega) (by omega)
    refine ⟨E',oa',s',k2,?_,g4.trans k4,_,rfl,?_⟩
    · exact g3.bnd (f:=fun c=>qL b mo c.1 c.2 F) k3.toE
    · (refine ⟨0,?_⟩;simp (maxSteps:=2000000) -implicitDefEqProofs [-getElem?_pos,go_sem,eqV,ah,g1,k1,ak])
  · obtain ⟨E',q1,q2,q3⟩:=lG (e:=5) h
    refine ⟨E',oa,fP s 5,q2,?_,q3,_,rfl,?_⟩
    · exact (bV.bad (d:=()) hs (by simp)).toE
    · (refine ⟨0,?_⟩;simp (maxSteps:=2000000) -implicitDefEqProofs [-getElem?_pos,go_sem,eqV,ah,q1,ak])
end
end Go.Proofs.Yteblpjhkgdpchaa
namespace Go.Proofs.Yteblpjhkgdpchaa
open Go.AM
section
variable {c:Nat} {b:List UInt8} {mo:Int} {t:Nat} {H:AM.Heap} {o:Nat} {oa:Option Nat} {s:Is}
theorem Zh {m p:Nat} {v:AV} {E:AM.Heap} (h:IrV c b mo t E 0 oa s):∃ code,((Try.f29.body).bind (aI [1,1,0,1,0,0,1,0,1,0])) = some code∧Run X (evT X) 29 m code [(0,.ptr 0 0 0 0),(3,v),(5,.ptr p 0 0 0)] E ⟨.normal,tH v p s.o.length,E⟩:=by
  refine ⟨_,rfl,?_⟩
  obtain ⟨⟨vo,τ1,τ,a1,a2,h0,ho⟩,hne⟩:=id h
  simp only [bF] at h0
  simp only [tH]
  cases oa with
  | none =>
    obtain ⟨h1,τ2,hτ2,rfl⟩:=ho
    rw [h1]
    (refine ⟨0,?_⟩;simp (maxSteps:=2000000) -implicitDefEqProofs [-getElem?_pos,go_sem,eqV,ah,h0,ak])
  | some a =>
    obtain ⟨g,τ2,ob,hτ2,rfl,h3,h4⟩:=ho
    have hg:=h4.g
    generalize s.o.length = N at *
    (refine ⟨0,?_⟩;simp (maxSteps:=2000000) -implicitDefEqProofs [-getElem?_pos,go_sem,eqV,ah,h0,h3,hg,ak])
theorem Xy {m p n0 y k:Nat} {l:Bool} {v:AV} {E:AM.Heap} (h:IrV c b mo t E 0 oa s) (hp:E[p]? = some (some (bkO (y:Nat) l k 0))) (hn:n0≤100000000) (hs:s.o.length≤100000000):∃ code,((Try.f29.body).bind (aI [1,1,0,1,0,0,1,0,1,1,1,1,1,1,0])) = some code∧Run X (evT X) 29 m code (tH v p n0) E ⟨.normal,[(0,.ptr 0 0 0 0),(3,v),(5,.ptr p 0 0 0)],AM.upd E p (some (bkO (y:Nat) l k ((s.o.length:Int) - (n0:Int))))⟩:=by
  refine ⟨_,rfl,?_⟩
  obtain ⟨⟨vo,τ1,τ,a1,a2,h0,ho⟩,hne⟩:=id h
  simp only [bF] at h0
  simp only [tH,bkO,bkR] at hp ⊢
  have w:IntKind.i64.wrap ((s.o.length:Int) - (n0:Int)) = (s.o.length:Int) - (n0:Int):=by rw [wrap_i64 (by omega) (by omega)]
  cases oa with
  | none =>
    obtain ⟨h1,τ2,hτ2,rfl⟩:=ho
    rw [h1] at w ⊢
    have w':IntKind.i64.wrap (-(n0:Int)) = -(n0:Int):=by simpa using w
    (refine ⟨0,?_⟩;simp (maxSteps:=2000000) -implicitDefEqProofs [-getElem?_pos,go_sem,eqV,ah,h0,hp,w'])
  | some a =>
    obtain ⟨g,τ2,ob,hτ2,rfl,h3,h4⟩:=ho
    have hg:=h4.g
    generalize s.o.length = N at *
    (refine ⟨0,?_⟩;simp (maxSteps:=2000000) -implicitDefEqProofs [-getElem?_pos,go_sem,eqV,ah,h0,h3,hg,hp,w])
theorem aiF:Vb X 6 68 = true:=by kernel_rfl
theorem aiG (k:Int):lU X 68 [(2,.int .i64 k)] = some (.agg (.pc [.int .i64 0,.bool false,.int .i64 k,.int .i64 0])):=by kernel_rfl
theorem aiH (l:List AV):lV X 68 l = some (.pc l):=by kernel_rfl
theorem aiI (H:AM.Heap) (y n:Int) (l:Bool) (k:Nat):dh X H 53 1 [(0,.agg (.pc [.int .i64 y,.bool l,.int .i64 (k:Nat),.int .i64 n]))] = some (.ro 1 (.pr 4 [.pc [.int .i64 y,.bool l,.int .i64 (k:Nat),.int .i64 n]]) 0,H):=by kernel_rfl
theorem Zi {m p k:Nat} {y n:Int} {l:Bool} {v v':AV} {E E':AM.Heap} {la':Option Nat} {R:List AV} (hp:E[p]? = some (some (bkO y l k n))) (hA:dw X E 53 v (.ro 1 (.pr 4 [bkR y l k n]) 0) = some (v',E')) (hk:E'[p]? = E[p]?) (hpv:p ∉ ids v) (hv':LkV E' la' v' (R ++ [bkR y l k n])) :
    ∃ code,((Try.f29.body).bind (aI [1,1,0,1,0,0,1,0,1,1,1,1,1,1,1])) = some code∧Run X (evT X) 29 m code [(0,.ptr 0 0 0 0),(3,v),(5,.ptr p 0 0 0)] E ⟨.normal,[(0,.ptr 0 0 0 0),(3,v'),(4,.bool l)],E'⟩:=by
  refine ⟨_,rfl,?_⟩
  have hpl:=eP hp
  rw [← hk] at hp
  have hp0:=hp
  rw [hk] at hp0
  simp only [bkO,bkR] at hp hp0 hA
  cases la' with
  | none=>exact absurd hv'.2.1 (by simp)
  | some a =>
    obtain ⟨_,g,ob,rfl,_⟩:=hv'
    generalize (R ++ [bkR y l k n]).length = N at *
    apply Run.dy (by simp) SH (by simp)
    · (conv=>lhs;simp (maxSteps:=2000000) -implicitDefEqProofs [-getElem?_pos,go_sem,eqV,ah,jQ,out1,bI,lq,jq,pushes,jE,gK,touched,mentioned,iG,eX,bT,lu,Op.operands,ids,aB,aH,dR,dO,fQ,jR,hp,hp0,hA,ak,iH,aiH,aiI,lQ,retag])
    · refine jr (ps:=[(0,1),(0,2),(0,4),(1,4),(2,4),(3,4),(0,5),(1,5),(2,5),(3,5),(4,6),(5,6)]) (by kernel_rfl) ?_
      simp [uT,bear,disjoint,kT,Call.operands,aJ,ay,aB,ids,iH,aiF,hpv,hpl]
    · rfl
theorem LkV.off {E:AM.Heap} {la:Option Nat} {v:AV} {R:List AV} {p:Nat} (h:LkV E la v R) (hp:la ≠ some p):p ∉ ids v:=by
  cases la with
  | none =>
    obtain ⟨_,_,rfl⟩:=h
    simp [ids]
  | some a =>
    obtain ⟨_,g,ob,rfl,_⟩:=h
    simp [ids]
    exact fun e=>hp (by rw [e])
theorem Wy {m F:Nat} {v:AV} {la:Option Nat} {R:List AV} {E:AM.Heap} (h:IrV c b mo t E 0 oa s) (hs:fE b mo s) (hb:b.length≤100000) (hm:mo≤1000000) (he:s.e = 0) (hF:8 * b.length < F) (hL:LkV E la v R) (hR:R.length≤1000000) (l0:la ≠ some 0) (l1:∀ a,oa = some a→la ≠ some a) :
    ∃ code,((Try.f29.body).bind (aI [1,1,0,1,0,0,1])) = some code∧aj (fun out=>∃ oa' s' la' v' R' x,IrV c b mo t out.H 0 oa' s'∧(∀ a,oa = some a→oa' = some a)∧LkV out.H la' v' R'∧la' ≠ some 0∧(∀ a,oa' = some a→la' ≠ some a)∧fO b mo (NM b mo F) s s' x∧R'.length≤R.length + 1∧(∀ a,la = some a→la' = some a) ∧
        ((out.ex = .exit 0∧ay out.fr 3 = v'∧s'.e ≠ 0)∨(out.ex = .normal∧out.fr = [(0,.ptr 0 0 0 0),(3,v'),(4,.bool x.last)]∧(s'.e = 0→R' = R ++ [bkT x]))))
      X (evT X) 29 m code [(0,.ptr 0 0 0 0),(3,v),(17,.bool true)] E:=by
  refine ⟨_,rfl,?_⟩
  obtain ⟨⟨vo,τ1,τ,a1,a2,h0,ho⟩,hne⟩:=id h
  have hlt:=h.lt
  -- a new block
  have hr4:∃ code,((Try.f29.body).bind (aI [1,1,0,1,0,0,1,0,0])) = some code∧Run X (evT X) 29 m code [(0,.ptr 0 0 0 0),(3,v),(17,.bool true)] E ⟨.normal,[(0,.ptr 0 0 0 0),(3,v),(5,.ptr E.length 0 0 0)],E ++ [some (bkO 0 false s.k 0)]⟩:=by
    refine ⟨_,rfl,?_⟩
    simp only [bF,bkO,bkR] at h0 ⊢
    (refine ⟨0,?_⟩;simp (maxSteps:=2000000) -implicitDefEqProofs [-getElem?_pos,go_sem,eqV,ah,h0,aiG,yh,uf,splice,jd,scalars,scalar])
  refine aj.blk ?_ (by
    rintro o ⟨_,_,_,_,_,_,_,_,_,_,_,_,_,_,hx⟩
    rcases hx with ⟨hx,_⟩ | ⟨hx,_⟩ <;> rw [hx] <;> simp)
  apply aj.seq (piece hr4 _ rfl)
  have hV0:IrV c b mo t (E ++ [some (bkO 0 false s.k 0)]) 0 oa s:=h.cat
  apply aj.seq (piece (Zh hV0) _ rfl)
  have hK0:Kpt E (E ++ [some (bkO 0 false s.k 0)]) 0 oa oa:=Kpt.cat _
  have aiJ:(E ++ [some (bkO 0 false s.k 0)])[E.length]? = some (some (bkO 0 false s.k 0)):=by simp
  have hl0:(E ++ [some (bkO 0 false s.k 0)]).length = E.length + 1:=by simp
  clear hr4
  generalize E ++ [some (bkO 0 false s.k 0)] = E0 at *
  -- is it the al7
  obtain ⟨E1,oa1,s1,u,g1,g2,g3,k1⟩:=iQ (n:=1) (I:=1) rfl hV0 hs hb (by omega)
  obtain ⟨hp1,hn1⟩:=kept (j:=E.length) k1 (by omega) (by omega) (fun a ha=>by have:=hlt.2 a ha;omega)
  rw [aiJ] at hp1
  have hle1:E.length + 1≤E1.length:=by have:=k1.len;omega
  apply aj.seq (fr':=tH v E.length s.o.length) (H':=AM.upd E1 E.length (some (bkO 0 (u == 1) s.k 0)))
  · simp only [tH,bkO,bkR] at hp1 ⊢
    (refine ⟨0,?_⟩;simp (maxSteps:=2000000) -implicitDefEqProofs [-getElem?_pos,go_sem,eqV,ah,g1,hp1])
  have hV1:=g2.other (x:=some (bkO 0 (u == 1) s.k 0)) (j:=E.length) (by omega) hn1
  have hK1:=(hK0.trans k1).OV (p:=E.length) (x:=some (bkO 0 (u == 1) s.k 0)) (Nat.le_refl _)
  have hp1':(AM.upd E1 E.length (some (bkO 0 (u == 1) s.k 0)))[E.length]? = some (some (bkO 0 (u == 1) s.k 0)):=by unfold AM.upd;rw [List.getElem?_set_self (by omega)]
  have al8:E.length + 1≤(AM.upd E1 E.length (some (bkO 0 (u == 1) s.k 0))).length:=by simpa [AM.upd] using hle1
  generalize AM.upd E1 E.length (some (bkO 0 (u == 1) s.k 0)) = E1' at *
  -- of what kind?
  obtain ⟨E2,oa2,s2,y,j1,j2,j3,k2⟩:=iQ (n:=2) (I:=2) rfl hV1 g3.1 hb (by omega)
  obtain ⟨y0,y4⟩:=gJ j3 g3.1
  obtain ⟨y,rfl⟩:∃ u':Nat,y = (u':Int):=⟨y.toNat,by omega⟩
  obtain ⟨hp2,hn2⟩:=kept (j:=E.length) k2 (by omega) (by omega) hn1
  rw [hp1'] at hp2
  have hle2:=k2.len
  apply aj.seq (fr':=tH v E.length s.o.length) (H':=AM.upd E2 E.length (some (bkO (y:Nat) (u == 1) s.k 0)))
  · simp only [tH,bkO,bkR] at hp2 ⊢
    (refine ⟨0,?_⟩;simp (maxSteps:=2000000) -implicitDefEqProofs [-getElem?_pos,go_sem,eqV,ah,j1,hp2])
  have hV2:=j2.other (x:=some (bkO (y:Nat) (u == 1) s.k 0)) (j:=E.length) (by omega) hn2
  have hK2:=(hK1.trans k2).OV (p:=E.length) (x:=some (bkO (y:Nat) (u == 1) s.k 0)) (Nat.le_refl _)
  have hp2':(AM.upd E2 E.length (some (bkO (y:Nat) (u == 1) s.k 0)))[E.length]? = some (some (bkO (y:Nat) (u == 1) s.k 0)):=by unfold AM.upd;rw [List.getElem?_set_self (by omega)]
  have al9:E.length + 1≤(AM.upd E2 E.length (some (bkO (y:Nat) (u == 1) s.k 0))).length:=by simp only [AM.upd,List.length_set];omega
  generalize AM.upd E2 E.length (some (bkO (y:Nat) (u == 1) s.k 0)) = E2' at *
  have hoff:∀ a,la = some a→a < E.length∧a ≠ 0∧∀ z,oa = some z→a ≠ z:=fun a ha=>⟨hL.lt a ha,fun e=>l0 (by rw [ha,e]),fun z hz e=>l1 z hz (by rw [ha,e])⟩
  have hL2:LkV E2' la v R:=hL.keep fun a ha=>hK2.rest a (hoff a ha).1 (hoff a ha).2.1 (hoff a ha).2.2
  have hlx:∀ {E3:AM.Heap} {oa3:Option Nat},Kpt E E3 0 oa oa3→∀ a,oa3 = some a→la ≠ some a:=by
    intro E3 oa3 hK a ha e
    obtain ⟨q1,q2,q3⟩:=hoff a e
    exact (kept hK q1 q2 q3).2 a ha rfl
  -- an error?
  obtain ⟨⟨vo2,τ3,τ4,a3,a4,h02,ho2⟩,hne2⟩:=id hV2
  simp only [bF] at h02
  apply aj.assoc
  by_cases he2:¬ s2.e = 0
  · have heb:(s2.e != 0) = true:=by simpa using he2
    refine aj.of (o:=⟨.exit 0,tH v E.length s.o.length ++ [(39,.bool true)],E2'⟩) ?_ ⟨oa2,s2,la,v,R,⟨0,false,0,0⟩,hV2,hK2.same,hL2,l0,hlx hK2,?_,by omega,fun _ h=>h,.inl ⟨rfl,by simp [tH,ay],he2⟩⟩
    · simp only [tH]
      (refine ⟨0,?_⟩;simp (maxSteps:=2000000) -implicitDefEqProofs [-getElem?_pos,go_sem,eqV,ah,h02,he2,heb])
    · have:=g3.toE.bnd (f:=fun l=>dG (gV b 2) fun t=>dG (F6 b mo F t) fun _=>fun k' o'=>Res.ok (⟨t,l == 1,s.k,o'.length - s.o.length⟩:Blk) k' o') (j3.toE.bnd (f:=fun t=>dG (F6 b mo F t) fun _=>fun k' o'=>Res.ok (⟨t,u == 1,s.k,o'.length - s.o.length⟩:Blk) k' o') (fO.stop (x:=⟨0,false,0,0⟩) j3.1 he2))
      exact this
  have he2:s2.e = 0:=Classical.not_not.1 he2
  apply aj.seq (fr':=tH v E.length s.o.length ++ [(39,.bool false)]) (H':=E2')
  · simp only [tH]
    (refine ⟨0,?_⟩;simp (maxSteps:=2000000) -implicitDefEqProofs [-getElem?_pos,go_sem,eqV,ah,h02,he2])
  apply aj.seq (fr':=tH v E.length s.o.length ++ [(39,.bool false)]) (H':=E2')
  · refine ⟨0,?_⟩
    simp only [tH]
    simp (maxSteps:=2000000) -implicitDefEqProofs [-getElem?_pos,go_sem,eqV,ah]
  apply aj.assoc
  apply aj.seq (fr':=tH v E.length s.o.length ++ [(41,.int .i64 (y:Nat))]) (H':=E2')
  · simp only [tH,bkO,bkR] at hp2' ⊢
    (refine ⟨0,?_⟩;simp (maxSteps:=2000000) -implicitDefEqProofs [-getElem?_pos,go_sem,eqV,ah,hp2'])
  obtain ⟨E3,oa3,s3,i1,i2,k3,hrk⟩:=Xx (m:=m) (F:=F) (p:=E.length) (n0:=s.o.length) (y:=y) (v:=v) hV2 j3.1 hb hm he2 hF (by omega)
  apply aj.seq (piece hrk _ rfl)
  obtain ⟨hp3,hn3⟩:=kept (j:=E.length) k3 (by omega) (by omega) hn2
  rw [hp2'] at hp3
  have hs1:=hs.2
  have hs3:=i2.1.2
  apply aj.seq (piece (Xy i1 hp3 (by omega) (by omega)) _ rfl)
  have hle3:=k3.len
  have hV3:=i1.other (x:=some (bkO (y:Nat) (u == 1) s.k ((s3.o.length:Int) - (s.o.length:Int)))) (j:=E.length) (by omega) hn3
  have hK3:=(hK2.trans k3).OV (p:=E.length) (x:=some (bkO (y:Nat) (u == 1) s.k ((s3.o.length:Int) - (s.o.length:Int)))) (Nat.le_refl _)
  have abD:(AM.upd E3 E.length (some (bkO (y:Nat) (u == 1) s.k ((s3.o.length:Int) - (s.o.length:Int)))))[E.length]? = some (some (bkO (y:Nat) (u == 1) s.k ((s3.o.length:Int) - (s.o.length:Int)))):=by unfold AM.upd;rw [List.getElem?_set_self (by omega)]
  generalize AM.upd E3 E.length (some (bkO (y:Nat) (u == 1) s.k ((s3.o.length:Int) - (s.o.length:Int)))) = E3' at *
  have hL3:LkV E3' la v R:=hL.keep fun a ha=>hK3.rest a (hoff a ha).1 (hoff a ha).2.1 (hoff a ha).2.2
  obtain ⟨v',E4,la',hA,hL4,anG,hk4,hsm,hnw⟩:=hL3.app (kind:=(y:Nat)) (last:=(u == 1)) (k:=s.k) (n:=(s3.o.length:Int) - (s.o.length:Int)) (by omega)
  have hlp:la ≠ some E.length:=fun e=>by have:=(hoff _ e).1;omega
  have hlt3:=hV3.lt
  have hV4:IrV c b mo t E4 0 oa3 s3:=hV3.keep (hk4 0 hlt3.1 l0) fun a ha=>hk4 a (hlt3.2 a ha) (hlx hK3 a ha)
  have hla:la' ≠ some 0∧∀ a,oa3 = some a→la' ≠ some a:=by
    cases hq:la with
    | none =>
      rw [hnw hq]
      exact ⟨fun e=>by injection e with e;omega,fun a ha e=>by injection e with e;have:=hlt3.2 a ha;omega⟩
    | some z =>
      rw [hsm z hq,← hq]
      exact ⟨l0,fun a ha=>hlx hK3 a ha⟩
  have aiK:=Zi (m:=m) abD hA (hk4 _ (eP abD) hlp) (hL3.off hlp) hL4
  have hrun:fO b mo (NM b mo F) s s3 ⟨(y:Nat),u == 1,s.k,s3.o.length - s.o.length⟩:=by
    have:=g3.toE.bnd (f:=fun l=>dG (gV b 2) fun t=>dG (F6 b mo F t) fun _=>fun k' o'=>Res.ok (⟨t,l == 1,s.k,o'.length - s.o.length⟩:Blk) k' o') (j3.toE.bnd (f:=fun t=>dG (F6 b mo F t) fun _=>fun k' o'=>Res.ok (⟨t,u == 1,s.k,o'.length - s.o.length⟩:Blk) k' o') (i2.bnd (f:=fun _=>fun k' o'=>Res.ok (⟨(y:Nat),u == 1,s.k,o'.length - s.o.length⟩:Blk) k' o') (fO.pure (fun k' o'=>(⟨(y:Nat),u == 1,s.k,o'.length - s.o.length⟩:Blk)) i2.1)))
    exact this
  refine aj.of (o:=⟨.normal,[(0,.ptr 0 0 0 0),(3,v'),(4,.bool (u == 1))],E4⟩) (piece aiK _ rfl) ⟨oa3,s3,la',v',_,_,hV4,hK3.same,hL4,hla.1,hla.2,hrun,by simp,hsm,.inr ⟨rfl,rfl,fun he3=>?_⟩⟩
  have hlen:s.o.length≤s3.o.length:=by
    obtain ⟨_,f1⟩:=i2.fine he3
    obtain ⟨f2,f3⟩:=j3.fine he2
    obtain ⟨_,f4⟩:=g3.fine f2
    obtain ⟨x1,hx1⟩:=((PG F _).up _ _ _ _ _ _ _ f1 j3.1.1).2.2.1
    obtain ⟨x2,hx2⟩:=((iP 2).up b mo _ _ _ _ _ f3 g3.1.1).2.2.1
    obtain ⟨x3,hx3⟩:=((iP 1).up b mo _ _ _ _ _ f4 hs.1).2.2.1
    rw [hx1,hx2,hx3]
    simp only [List.length_append]
    omega
  simp only [bkT]
  rw [show ((s3.o.length - s.o.length:Nat):Int) = (s3.o.length:Int) - (s.o.length:Int) by omega]
end
end Go.Proofs.Yteblpjhkgdpchaa
