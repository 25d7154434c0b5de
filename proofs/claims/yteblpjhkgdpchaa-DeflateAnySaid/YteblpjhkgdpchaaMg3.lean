/- E7 to W4: texts of this claim, one behind the other; what each shows stands at its head. -/
import Derived.Test.YteblpjhkgdpchaaAm4
import Derived.Test.YteblpjhkgdpchaaMg2
set_option linter.unusedSimpArgs false
set_option linter.unusedVariables false
set_option maxRecDepth 100000
set_option maxHeartbeats 8000000
namespace Go.Proofs.Yteblpjhkgdpchaa
open Go.AM
section
variable {c:Nat} {l:List Px}
theorem VQ {m i q n g d:Nat} {x:Px} {o:List UInt8} {ob:AM.Obj} {E:AM.Heap} (hq:E[q]? = some (some (pxO x))) (hq1:q ≠ 1) (hd:x.dist = (d:Nat)) (hd1:1≤d) (hd2:d≤o.length) (ho:E[1]? = some (some ob)) (hw:Rw (.pb o) g ob) (hol:o.length + n≤1000000) :
    ∃ code,((Try.f14.body).bind (aI [1,1,0,1,0,0,1,1,0,0,1,1,1,1,1])) = some code∧aj (Goes fun fr E'=>∃ g' ob',aZ [4,7,8,9] fr = ng (.sl 1 0 (mQ d n o).length g') c l i∧E'[1]? = some (some ob')∧Rw (.pb (mQ d n o)) g' ob') X (evT X) 14 m code (vF (.sl 1 0 o.length g) q c l i n 0) E:=by
  refine ⟨_,rfl,?_⟩
  apply aj.block
  refine aj.kE (I:=fun k fr E'=>∃ j o' g' ob',j≤n∧k = n - j∧fr = vF (.sl 1 0 o'.length g') q c l i n j∧E'[q]? = some (some (pxO x))∧E'[1]? = some (some ob')∧Rw (.pb o') g' ob'∧o'.length = o.length + j∧mQ d (n - j) o' = mQ d n o) ?_ (k:=n) ⟨0,o,g,ob,by omega,rfl,rfl,hq,ho,hw,rfl,rfl⟩
  rintro k fr E' ⟨j,o',g',ob',hj,rfl,rfl,hq',ho',hw',hlen,hc⟩
  by_cases hjn:j = n
  · subst hjn
    rw [Nat.sub_self] at hc
    refine aj.of (o:=⟨.exit 2,vF (.sl 1 0 o'.length g') q c l i j j ++ [(32,.bool false)],E'⟩) ?_ (.inr ⟨by simp,rfl,g',ob',by rw [← hc];simp [vF,ng,aZ,ay,mQ],ho',by rw [← hc];exact hw'⟩)
    refine ⟨0,?_⟩
    simp only [vF]
    generalize l.map pxR = R at *
    generalize l.length = N at *
    generalize o'.length = K at *
    simp (maxSteps:=2000000) -implicitDefEqProofs [-getElem?_pos,go_sem,eqV,ah]
  · have hlt:j < n:=by omega
    have lI:(j:Int) < (n:Int):=by omega
    obtain ⟨ob2,w1,hr⟩:=Yf (m:=m) (c:=c) (l:=l) (i:=i) (n:=n) (j:=j) (tl:=[(32,.bool true)]) hq' hd hd1 (by omega) ho' hw' (by omega)
    have hn1:n - j = (n - (j + 1)) + 1:=by omega
    rw [hn1,mQ] at hc
    refine aj.of (o:=⟨.normal,vF (.sl 1 0 (o'.length + 1) (g' + 1)) q c l i n (j + 1),upd E' 1 (some ob2)⟩) ?_ (.inl ⟨rfl,n - (j + 1),by omega,j + 1,o' ++ [o'.getD (o'.length - d) 0],g' + 1,ob2,by omega,rfl,by simp,vG hq' (Ne.symm hq1),setAt ho',w1,by simp;omega,hc⟩)
    apply Run.seq (fr':=vF (.sl 1 0 o'.length g') q c l i n j ++ [(32,.bool true)]) (H':=E')
    · simp only [vF]
      generalize l.map pxR = R at *
      generalize l.length = N at *
      generalize o'.length = K at *
      (refine ⟨0,?_⟩;simp (maxSteps:=2000000) -implicitDefEqProofs [-getElem?_pos,go_sem,eqV,ah,lI,hlt])
    apply Run.seq (fr':=vF (.sl 1 0 o'.length g') q c l i n j ++ [(32,.bool true)]) (H':=E')
    · exact Run.cond (d:=true) (by simp [vF,aJ,ay]) ⟨0,rfl⟩
    apply Run.seq (fr':=vF (.sl 1 0 (o'.length + 1) (g' + 1)) q c l i n j) (H':=upd E' 1 (some ob2))
    · apply Run.block
      · exact piece hr _ rfl
      · simp
    · have w4:IntKind.i64.wrap ((j:Int) + 1) = ((j + 1:Nat):Int):=by rw [wrap_i64 (by omega) (by omega)];omega
      generalize j + 1 = j1 at *
      simp only [vF]
      generalize l.map pxR = R at *
      generalize l.length = N at *
      generalize o'.length + 1 = K at *
      (refine ⟨0,?_⟩;simp (maxSteps:=2000000) -implicitDefEqProofs [-getElem?_pos,go_sem,eqV,ah,w4])
def exX (l:List Px) (fr:AM.Frame) (E:AM.Heap):Prop:=∃ o e a g ob,iL l [] = (o,e)∧ay fr 2 = .sl a 0 o.length g∧ay fr 3 = .int .i64 e∧E[a]? = some (some ob)∧Rw (.pb o) g ob
theorem Ik {x:Px} (h:oW x = true) (h0:¬ x.len = 0):∃ n d:Nat,x.len = n∧x.dist = d∧3≤n∧n≤258∧1≤d:=by
  unfold oW at h
  rw [if_neg h0] at h
  simp at h
  exact ⟨x.len.toNat,x.dist.toNat,by omega,by omega,by omega,by omega,by omega⟩
theorem VR {m i g:Nat} {x:Px} {o:List UInt8} {ob:AM.Obj} {E:AM.Heap} (hx:l[i]? = some x) (hl:l.length≤2000) (ho:E[1]? = some (some ob)) (hw:Rw (.pb o) g ob) (hol:o.length≤258 * i) (he:iL (l.drop i) o = iL l []) :
    ∃ code,((Try.f14.body).bind (aI [1,1,0,1,0,0,1,1])) = some code∧aj (fun out=>(out.ex = .normal∧∃ o' g' ob',out.fr = ng (.sl 1 0 o'.length g') c l (i + 1)∧out.H[1]? = some (some ob')∧Rw (.pb o') g' ob'∧o'.length≤258 * (i + 1)∧iL (l.drop (i + 1)) o' = iL l [])∨(out.ex = .ret∧exX l out.fr out.H)) X (evT X) 14 m code (ng (.sl 1 0 o.length g) c l i ++ [(10,.bool true)]) E:=by
  refine ⟨_,rfl,?_⟩
  have hi:=eP hx
  have hdrop:l.drop i = x :: l.drop (i + 1):=by
    rw [List.drop_eq_getElem_cons hi]
    rw [List.getElem?_eq_getElem hi] at hx
    rw [Option.some.inj hx]
  rw [hdrop,iL] at he
  have hg:=hw.g
  have hE1:=eP ho
  have hq:(E ++ [some (pxO x)])[E.length]? = some (some (pxO x)):=by simp
  have ho2:(E ++ [some (pxO x)])[1]? = some (some ob):=by rw [List.getElem?_append_left hE1];exact ho
  have hr4:=ZM (m:=m) (c:=c) (v:=.sl 1 0 o.length g) (E:=E) hx (by omega)
  have hq1:E.length ≠ 1:=by omega
  generalize E ++ [some (pxO x)] = E0 at *
  generalize E.length = q at *
  have hr5:=ZN (m:=m) (c:=c) (l:=l) (i:=i) (v:=.sl 1 0 o.length g) hq
  have w1:IntKind.i64.wrap ((i:Int) + 1) = ((i + 1:Nat):Int):=by rw [wrap_i64 (by omega) (by omega)];omega
  by_cases hm:oW x = false
  · rw [if_pos hm] at he
    rw [hm] at hr5
    refine aj.of (o:=⟨.ret,[(2,.sl E0.length 0 0 0),(3,.int .i64 2)],E0 ++ [some (⟨.pb [],0,none,0,true,false,0⟩:AM.Obj)]⟩) ?_ (.inr ⟨rfl,[],2,E0.length,0,_,he.symm,rfl,rfl,List.getElem?_concat_length,⟨rfl,rfl,rfl,rfl,rfl⟩⟩)
    refine Run.bG ?_ (by simp)
    refine Run.block ?_ (by simp)
    apply Run.seq (piece hr4 _ rfl)
    refine Run.bG ?_ (by simp)
    apply Run.seq (piece hr5 _ rfl)
    refine Run.cond (d:=true) (by simp [ku,aJ,ay]) ?_
    apply Run.seq (fr':=[(2,.sl E0.length 0 0 0),(3,.int .i64 2)]) (H':=E0 ++ [some (⟨.pb [],0,none,0,true,false,0⟩:AM.Obj)])
    · simp only [ku]
      generalize l.map pxR = R at *
      generalize l.length = N at *
      generalize o.length = K at *
      (refine ⟨0,?_⟩;simp (maxSteps:=2000000) -implicitDefEqProofs [-getElem?_pos,go_sem,eqV,ah,ak,rowOf,QS])
    · exact ⟨0,rfl⟩
  have hmt:oW x = true:=by simpa using hm
  rw [if_neg hm] at he
  rw [hmt] at hr5
  by_cases h0:x.len = 0
  · rw [if_pos h0] at he
    obtain ⟨ob',k1,k2⟩:=Tm (C:=X) (T:=28) (e:=5) (H:=E0) (o:=1) (m:=[x.byte]) (src:=.ro 1 (.pb [x.byte]) 0) BN Tn DK bytes5 Ns ho2 hw (.inl (by simp [mO,ql,sF])) (by simp;omega)
    simp only [List.length_singleton] at k2
    have hr8:=ZO (m:=m) (c:=c) (l:=l) (i:=i) (tl:=[(18,.bool true)]) hq k2
    refine aj.of (o:=⟨.normal,ng (.sl 1 0 (o.length + 1) (g + 1)) c l (i + 1),upd E0 1 (some ob')⟩) ?_ (.inl ⟨rfl,o ++ [x.byte],g + 1,ob',by simp,setAt ho2,k1,by simp;omega,he⟩)
    apply Run.seq (fr':=ng (.sl 1 0 (o.length + 1) (g + 1)) c l i) (H':=upd E0 1 (some ob'))
    · refine Run.iU ?_
      apply Run.seq (piece hr4 _ rfl)
      apply Run.seq (fr':=ku (.sl 1 0 o.length g) q c l i ++ [(15,.bool false)]) (H':=E0)
      · apply Run.seq (piece hr5 _ rfl)
        exact Run.cond (d:=false) (by simp [ku,aJ,ay]) ⟨0,rfl⟩
      refine Run.bG ?_ (by simp)
      apply Run.seq (fr':=ku (.sl 1 0 o.length g) q c l i ++ [(18,.bool true)]) (H':=E0)
      · simp only [ku,pxO,pxR,h0] at hq ⊢
        generalize l.map pxR = R at *
        generalize l.length = N at *
        generalize o.length = K at *
        (refine ⟨0,?_⟩;simp (maxSteps:=2000000) -implicitDefEqProofs [-getElem?_pos,go_sem,eqV,ah,hq])
      refine Run.cond (d:=true) (by simp [ku,aJ,ay]) ?_
      exact Run.seq (piece hr8 _ rfl) ⟨0,rfl⟩
    · simp only [ng]
      generalize l.map pxR = R at *
      generalize l.length = N at *
      generalize o.length + 1 = K at *
      generalize i + 1 = i1 at *
      (refine ⟨0,?_⟩;simp (maxSteps:=2000000) -implicitDefEqProofs [-getElem?_pos,go_sem,eqV,ah,w1])
  rw [if_neg h0] at he
  obtain ⟨n,d,hn,hd,n3,n258,d1⟩:=Ik hmt h0
  have hr9:=ZP (m:=m) (c:=c) (l:=l) (i:=i) (x:=x) (tl:=[(18,.bool false)]) hq ho2 hw
  have hr7:∃ code,((Try.f14.body).bind (aI [1,1,0,1,0,0,1,1,0,0,1,1,0,0])) = some code∧Run X (evT X) 14 m code (ku (.sl 1 0 o.length g) q c l i ++ [(15,.bool false)]) E0 ⟨.normal,ku (.sl 1 0 o.length g) q c l i ++ [(18,.bool false)],E0⟩:=by
    refine ⟨_,rfl,?_⟩
    have h0b:(x.len == 0) = false:=by simpa using h0
    simp only [ku,pxO,pxR] at hq ⊢
    generalize l.map pxR = R at *
    generalize l.length = N at *
    generalize o.length = K at *
    (refine ⟨0,?_⟩;simp (maxSteps:=2000000) -implicitDefEqProofs [-getElem?_pos,go_sem,eqV,ah,hq,h0,h0b])
  by_cases hbig:(o.length:Int) < x.dist
  · rw [if_pos hbig] at he
    rw [decide_eq_true hbig] at hr9
    refine aj.of (o:=⟨.ret,[(2,.sl E0.length 0 0 0),(3,.int .i64 5)],E0 ++ [some (⟨.pb [],0,none,0,true,false,0⟩:AM.Obj)]⟩) ?_ (.inr ⟨rfl,[],5,E0.length,0,_,he.symm,rfl,rfl,List.getElem?_concat_length,⟨rfl,rfl,rfl,rfl,rfl⟩⟩)
    refine Run.bG ?_ (by simp)
    refine Run.block ?_ (by simp)
    apply Run.seq (piece hr4 _ rfl)
    apply Run.seq (fr':=ku (.sl 1 0 o.length g) q c l i ++ [(15,.bool false)]) (H':=E0)
    · apply Run.seq (piece hr5 _ rfl)
      exact Run.cond (d:=false) (by simp [ku,aJ,ay]) ⟨0,rfl⟩
    apply Run.seq (fr':=ku (.sl 1 0 o.length g) q c l i ++ [(18,.bool false)]) (H':=E0)
    · apply Run.seq (piece hr7 _ rfl)
      exact Run.cond (d:=false) (by simp [ku,aJ,ay]) ⟨0,rfl⟩
    refine Run.bG ?_ (by simp)
    apply Run.seq (piece hr9 _ rfl)
    refine Run.cond (d:=true) (by simp [ku,aJ,ay]) ?_
    apply Run.seq (fr':=[(2,.sl E0.length 0 0 0),(3,.int .i64 5)]) (H':=E0 ++ [some (⟨.pb [],0,none,0,true,false,0⟩:AM.Obj)])
    · simp only [ku]
      generalize l.map pxR = R at *
      generalize l.length = N at *
      generalize o.length = K at *
      (refine ⟨0,?_⟩;simp (maxSteps:=2000000) -implicitDefEqProofs [-getElem?_pos,go_sem,eqV,ah,ak,rowOf,QS])
    · exact ⟨0,rfl⟩
  rw [if_neg hbig,hn,hd] at he
  simp only [Int.toNat_natCast] at he
  rw [decide_eq_false hbig] at hr9
  have hcl:=sG d n o
  obtain ⟨XV,hcB,⟨⟨ex,fr,E2⟩,⟨he2,g',ob',hfr,ho',hw'⟩,hrB⟩⟩:=VQ (m:=m) (c:=c) (l:=l) (i:=i) (n:=n) hq hq1 hd d1 (by omega) ho2 hw (by omega)
  simp only at he2 hfr ho'
  subst he2
  refine aj.of (o:=⟨.normal,ng (.sl 1 0 (mQ d n o).length g') c l (i + 1),E2⟩) ?_ (.inl ⟨rfl,mQ d n o,g',ob',rfl,ho',hw',by rw [hcl];omega,he⟩)
  apply Run.seq (fr':=fr) (H':=E2)
  · refine Run.block ?_ (by simp)
    apply Run.seq (piece hr4 _ rfl)
    apply Run.seq (fr':=ku (.sl 1 0 o.length g) q c l i ++ [(15,.bool false)]) (H':=E0)
    · apply Run.seq (piece hr5 _ rfl)
      exact Run.cond (d:=false) (by simp [ku,aJ,ay]) ⟨0,rfl⟩
    apply Run.seq (fr':=ku (.sl 1 0 o.length g) q c l i ++ [(18,.bool false)]) (H':=E0)
    · apply Run.seq (piece hr7 _ rfl)
      exact Run.cond (d:=false) (by simp [ku,aJ,ay]) ⟨0,rfl⟩
    apply Run.seq (fr':=ku (.sl 1 0 o.length g) q c l i ++ [(28,.bool false)]) (H':=E0)
    · apply Run.seq (piece hr9 _ rfl)
      exact Run.cond (d:=false) (by simp [ku,aJ,ay]) ⟨0,rfl⟩
    apply Run.seq (fr':=vF (.sl 1 0 o.length g) q c l i n 0) (H':=E0)
    · simp only [ku,vF,pxO,pxR,hn] at hq ⊢
      generalize l.map pxR = R at *
      generalize l.length = N at *
      generalize o.length = K at *
      (refine ⟨0,?_⟩;simp (maxSteps:=2000000) -implicitDefEqProofs [-getElem?_pos,go_sem,eqV,ah,hq])
    · exact (Option.some.inj hcB) ▸ hrB
  · have g4:ay fr 4 = .sl 1 0 (mQ d n o).length g':=by simpa [aZ,ng,ay] using congrArg (fun f=>ay f 4) hfr
    have g7:ay fr 7 = .ro c (.pr 3 (l.map pxR)) 1:=by simpa [aZ,ng,ay] using congrArg (fun f=>ay f 7) hfr
    have g8:ay fr 8 = .int .i64 (l.length:Nat):=by simpa [aZ,ng,ay] using congrArg (fun f=>ay f 8) hfr
    have g9:ay fr 9 = .int .i64 (i:Nat):=by simpa [aZ,ng,ay] using congrArg (fun f=>ay f 9) hfr
    simp only [ng]
    generalize l.map pxR = R at *
    generalize l.length = N at *
    generalize (mQ d n o).length = K at *
    generalize i + 1 = i1 at *
    (refine ⟨0,?_⟩;simp (maxSteps:=2000000) -implicitDefEqProofs [-getElem?_pos,go_sem,eqV,ah,g4,g7,g8,g9,w1])
end
end Go.Proofs.Yteblpjhkgdpchaa
namespace Go.Proofs.Yteblpjhkgdpchaa
open Go.AM
section
variable {c:Nat} {l:List Px}
theorem JQ {m:Nat} (hl:l.length≤2000):∃ code,Try.f14.body = some code∧aj (rF (exX l)) X (evT X) 14 m code [(0,.ro c (.pr 3 (l.map pxR)) 1)] []:=by
  refine ⟨_,rfl,?_⟩
  apply aj.seq (fr':=[(0,.ro c (.pr 3 (l.map pxR)) 1)]) (H':=[some (⟨.pb [],0,none,0,true,false,0⟩:AM.Obj)])
  · generalize l.map pxR = R at *
    (refine ⟨0,?_⟩;simp (maxSteps:=2000000) -implicitDefEqProofs [-getElem?_pos,go_sem,eqV,ah,ak,rowOf,QS])
  apply aj.seq (fr':=[(0,.ro c (.pr 3 (l.map pxR)) 1),(4,.sl 1 0 0 0)]) (H':=[some (⟨.pb [],0,none,0,true,false,0⟩:AM.Obj),some (⟨.pb [],0,none,0,true,false,0⟩:AM.Obj)])
  · generalize l.map pxR = R at *
    (refine ⟨0,?_⟩;simp (maxSteps:=2000000) -implicitDefEqProofs [-getElem?_pos,go_sem,eqV,ah,ak,rowOf,QS])
  have hE:([some (⟨.pb [],0,none,0,true,false,0⟩:AM.Obj),some (⟨.pb [],0,none,0,true,false,0⟩:AM.Obj)]:AM.Heap)[1]? = some (some ⟨.pb [],0,none,0,true,false,0⟩):=rfl
  generalize [some (⟨.pb [],0,none,0,true,false,0⟩:AM.Obj),some (⟨.pb [],0,none,0,true,false,0⟩:AM.Obj)] = E0 at *
  apply aj.assoc
  apply aj.seq (fr':=ng (.sl 1 0 0 0) c l 0) (H':=E0)
  · have hll:(l.map pxR).length = l.length:=by simp
    simp only [ng]
    generalize l.map pxR = R at *
    generalize l.length = N at *
    (refine ⟨0,?_⟩;simp (maxSteps:=2000000) -implicitDefEqProofs [-getElem?_pos,go_sem,eqV,ah,hll])
  refine aj.sH (P:=fun fr E=>∃ o g ob,iL l [] = (o,0)∧ay fr 4 = .sl 1 0 o.length g∧E[1]? = some (some ob)∧Rw (.pb o) g ob) ?_ ?_
  · refine aj.kE (I:=fun k fr E'=>∃ i o g ob,i≤l.length∧k = l.length - i∧fr = ng (.sl 1 0 o.length g) c l i∧E'[1]? = some (some ob)∧Rw (.pb o) g ob∧o.length≤258 * i∧iL (l.drop i) o = iL l []) ?_ (k:=l.length) ⟨0,[],0,_,by omega,rfl,rfl,hE,⟨rfl,rfl,rfl,rfl,rfl⟩,by simp,rfl⟩
    rintro k fr E' ⟨i,o,g,ob,hi,rfl,rfl,ho,hw,hol,he⟩
    by_cases hin:i = l.length
    · rw [List.drop_of_length_le (by omega),iL] at he
      refine aj.of (o:=⟨.exit 0,ng (.sl 1 0 o.length g) c l i ++ [(10,.bool false)],E'⟩) ?_ (.inr ⟨by simp,.inl ⟨rfl,o,g,ob,he.symm,by simp [ng,ay],ho,hw⟩⟩)
      subst hin
      refine ⟨0,?_⟩
      simp only [ng]
      generalize l.map pxR = R at *
      generalize l.length = N at *
      generalize o.length = K at *
      simp (maxSteps:=2000000) -implicitDefEqProofs [-getElem?_pos,go_sem,eqV,ah]
    · have hlt:i < l.length:=by omega
      have lI:(i:Int) < (l.length:Int):=by omega
      obtain ⟨x,hx⟩:∃ x,l[i]? = some x:=⟨_,List.getElem?_eq_getElem hlt⟩
      apply aj.seq (fr':=ng (.sl 1 0 o.length g) c l i ++ [(10,.bool true)]) (H':=E')
      · simp only [ng]
        generalize l.map pxR = R at *
        generalize l.length = N at *
        generalize o.length = K at *
        (refine ⟨0,?_⟩;simp (maxSteps:=2000000) -implicitDefEqProofs [-getElem?_pos,go_sem,eqV,ah,lI,hlt])
      apply aj.seq (fr':=ng (.sl 1 0 o.length g) c l i ++ [(10,.bool true)]) (H':=E')
      · exact Run.cond (d:=true) (by simp [ng,aJ,ay]) ⟨0,rfl⟩
      refine (piece (VR (m:=m) (c:=c) hx hl ho hw hol he) _ rfl).mono ?_
      rintro out (⟨h1,o',g',ob',h2,h3,h4,h5,h6⟩ | ⟨h1,h2⟩)
      · exact .inl ⟨h1,l.length - (i + 1),by omega,i + 1,o',g',ob',by omega,rfl,h2,h3,h4,h5,h6⟩
      · exact .inr ⟨by rw [h1];simp,.inr ⟨h1,h1,h2⟩⟩
  · rintro fr E' ⟨o,g,ob,he,h4,ho,hw⟩
    refine aj.of (o:=⟨.ret,[(2,.sl 1 0 o.length g),(3,.int .i64 0)],E'⟩) ?_ ⟨rfl,o,0,1,g,ob,he,rfl,rfl,ho,hw⟩
    refine ⟨0,?_⟩
    generalize o.length = K at *
    simp (maxSteps:=2000000) -implicitDefEqProofs [-getElem?_pos,go_sem,eqV,ah,h4,ak]
theorem Gm {H:AM.Heap} {a:AV} (ha:eG H a = some (.pr 3 (l.map pxR))) (hl:l.length≤2000):∃ ob,Rw (.pb (iL l []).1) 0 ob∧evT X 14 [a] H = some (.tup [.sl H.length 0 (iL l []).1.length 0,.int .i64 (iL l []).2],H ++ [some ob]):=by
  obtain ⟨c,x,hx⟩:=iM (C:=X) (f:=14) (i:=0) rfl ha (fV 1)
  obtain ⟨code,hc,⟨out,⟨ho,o,e,a2,g,ob,h1,h2,h3,h4,hw⟩,hrun⟩⟩:=JQ (m:=0) (c:=c) (l:=l) hl
  rw [h1]
  obtain ⟨ob',q1,q2⟩:=Ev1.VT (C:=X) (H:=H) (dL X) (n:=o.length) (l:=o) (rest:=[.int .i64 e]) Try.func14 hc hx rfl (by simp [dM]) rfl rfl rfl (by
    rw [ZQ]
    refine ⟨out,⟨ho,a2,g,ob,?_,h4,hw⟩,hrun⟩
    show aQ X out.fr out.H [.tmp 2,.tmp 3] = _
    simp [aQ,h2,h3])
  exact ⟨ob',q1,fH (by simpa [aO,fG] using q2)⟩
end
end Go.Proofs.Yteblpjhkgdpchaa
namespace Go.Proofs.Yteblpjhkgdpchaa
open Go.AM
def gF (per n:Nat):Nat→Nat→Nat→Nat→Nat→Nat × Nat × Nat
  | 0,s,base,bits,_=>(s,base,bits)
  | f + 1,s,base,bits,j=>if j = per then gF per n f s base (bits + 1) 0 else if n < base + 2 ^ bits then (s,base,bits) else gF per n f (s + 1) (base + 2 ^ bits) bits (j + 1)
def gOk (per n:Nat):Nat→Nat→Nat→Nat→Nat→Bool
  | 0,_,_,_,_=>false
  | f + 1,s,base,bits,j=>if j = per then gOk per n f s base (bits + 1) 0 else if n < base + 2 ^ bits then true else gOk per n f (s + 1) (base + 2 ^ bits) bits (j + 1)
def dJ (n s base bits:Nat):AM.Frame:=[(0,.int .i64 (n:Nat)),(2,.int .i64 (s:Nat)),(3,.int .i64 (base:Nat)),(4,.int .i64 (bits:Nat))]
theorem Tq {bits:Nat} (h:bits≤40):IntKind.i64.wrap (2 ^ min bits 64) = ((2 ^ bits:Nat):Int):=by
  rw [Nat.min_eq_left (by omega)]
  have h1:2 ^ bits≤2 ^ 40:=Nat.pow_le_pow_right (by omega) h
  have h2:(2:Int) ^ bits = ((2 ^ bits:Nat):Int):=by push_cast;rfl
  rw [h2]
  generalize 2 ^ bits = u at *
  exact wrap_i64 (by omega) (by omega)
theorem VU {m n s base bits j:Nat} {E:AM.Heap} (hn:n≤100000) (hs:s≤1000) (vH:bits≤40) (hb:base≤n + 100000) (hj:j < 4) :
    ∃ code,((Try.f33.body).bind (aI [1,1,1,1,1,0,0,0,0,1,0,0,1,1])) = some code∧Run X (evT X) 33 m code (dJ n s base bits ++ [(15,.int .i64 (j:Nat)),(16,.bool true)]) E (if n < base + 2 ^ bits then ⟨.ret,[(2,.int .i64 (s:Nat)),(3,.int .i64 (base:Nat)),(4,.int .i64 (bits:Nat))],E⟩ else ⟨.normal,dJ n (s + 1) (base + 2 ^ bits) bits ++ [(15,.int .i64 (j + 1:Nat))],E⟩):=by
  refine ⟨_,rfl,?_⟩
  have h1:2 ^ bits≤2 ^ 40:=Nat.pow_le_pow_right (by omega) vH
  have hp:=Tq vH
  generalize 2 ^ bits = pw at *
  have hb0:¬ (bits:Int) < 0:=by omega
  have w1:IntKind.i64.wrap ((base:Int) + ((pw:Nat):Int)) = ((base + pw:Nat):Int):=by rw [wrap_i64 (by omega) (by omega)];omega
  have w2:IntKind.i64.wrap ((s:Int) + 1) = ((s + 1:Nat):Int):=by rw [wrap_i64 (by omega) (by omega)];omega
  have w3:IntKind.i64.wrap ((j:Int) + 1) = ((j + 1:Nat):Int):=by rw [wrap_i64 (by omega) (by omega)];omega
  by_cases h:n < base + pw
  · rw [if_pos h]
    have hI:(n:Int) < ((base + pw:Nat):Int):=by omega
    generalize base + pw = nb at *
    refine Run.bG ?_ (by simp)
    refine Run.block ?_ (by simp)
    refine Run.bG ?_ (by simp)
    apply Run.seq (fr':=dJ n s base bits ++ [(15,.int .i64 (j:Nat)),(22,.bool true)]) (H':=E)
    · simp only [dJ]
      (refine ⟨0,?_⟩;simp (maxSteps:=2000000) -implicitDefEqProofs [-getElem?_pos,go_sem,eqV,ah,hp,hb0,w1,hI,h])
    refine Run.cond (d:=true) (by simp [dJ,aJ,ay]) ?_
    apply Run.seq (fr':=[(2,.int .i64 (s:Nat)),(3,.int .i64 (base:Nat)),(4,.int .i64 (bits:Nat))]) (H':=E)
    · simp only [dJ]
      (refine ⟨0,?_⟩;simp (maxSteps:=2000000) -implicitDefEqProofs [-getElem?_pos,go_sem,eqV,ah,ak])
    · exact ⟨0,rfl⟩
  · rw [if_neg h]
    have hI:¬ (n:Int) < ((base + pw:Nat):Int):=by omega
    generalize base + pw = nb at *
    generalize s + 1 = s1 at *
    generalize j + 1 = j1 at *
    apply Run.seq (fr':=dJ n s1 nb bits ++ [(15,.int .i64 (j:Nat))]) (H':=E)
    · refine Run.block ?_ (by simp)
      apply Run.seq (fr':=dJ n s base bits ++ [(15,.int .i64 (j:Nat)),(22,.bool false)]) (H':=E)
      · apply Run.seq (fr':=dJ n s base bits ++ [(15,.int .i64 (j:Nat)),(22,.bool false)]) (H':=E)
        · simp only [dJ]
          (refine ⟨0,?_⟩;simp (maxSteps:=2000000) -implicitDefEqProofs [-getElem?_pos,go_sem,eqV,ah,hp,hb0,w1,hI,h])
        · exact Run.cond (d:=false) (by simp [dJ,aJ,ay]) ⟨0,rfl⟩
      · simp only [dJ]
        (refine ⟨0,?_⟩;simp (maxSteps:=2000000) -implicitDefEqProofs [-getElem?_pos,go_sem,eqV,ah,hp,hb0,w1,w2,ak])
    · simp only [dJ]
      (refine ⟨0,?_⟩;simp (maxSteps:=2000000) -implicitDefEqProofs [-getElem?_pos,go_sem,eqV,ah,w3])
def lnR (R:Nat × Nat × Nat):AM.Frame:=[(2,.int .i64 (R.1:Nat)),(3,.int .i64 (R.2.1:Nat)),(4,.int .i64 (R.2.2:Nat))]
theorem ZR {m n s base bits f:Nat} {R:Nat × Nat × Nat} {E:AM.Heap} (hn:n≤100000) (hs:s + f≤900) (vH:bits + f≤41) (hb:base≤n + 100000) (hok:gOk 4 n f s base bits 0 = true) (hR:gF 4 n f s base bits 0 = R) :
    ∃ code,((Try.f33.body).bind (aI [1,1,1,1,1,0,0,0,0,1])) = some code∧aj (fun o=>(o.ex = .normal∧o.H = E∧∃ s' base' f',f' < f∧s' + f'≤900∧bits + 1 + f'≤41∧base'≤n + 100000∧aZ [0,2,3,4] o.fr = dJ n s' base' bits∧gOk 4 n f' s' base' (bits + 1) 0 = true∧gF 4 n f' s' base' (bits + 1) 0 = R)∨(o.ex = .ret∧o.fr = lnR R∧o.H = E)) X (evT X) 33 m code (dJ n s base bits ++ [(15,.int .i64 (0:Nat))]) E:=by
  refine ⟨_,rfl,?_⟩
  refine aj.mono (aj.Il (P:=fun fr H=>H = E∧∃ s' base' f',f' < f∧s' + f'≤900∧bits + 1 + f'≤41∧base'≤n + 100000∧aZ [0,2,3,4] fr = dJ n s' base' bits∧gOk 4 n f' s' base' (bits + 1) 0 = true∧gF 4 n f' s' base' (bits + 1) 0 = R) (Q:=fun o=>o.ex = .ret∧o.fr = lnR R∧o.H = E) ?_) ?_
  · refine aj.kE (I:=fun k fr H=>∃ s' base' j,k≤f∧s' + k≤900∧base'≤n + 100000∧j≤4∧fr = dJ n s' base' bits ++ [(15,.int .i64 (j:Nat))]∧H = E∧gOk 4 n k s' base' bits j = true∧gF 4 n k s' base' bits j = R) ?_ (k:=f) ⟨s,base,0,by omega,hs,hb,by omega,rfl,rfl,hok,hR⟩
    rintro k fr H ⟨s',base',j,hk,hsk,hb',hj,rfl,rfl,hok',hR'⟩
    cases k with
    | zero=>simp [gOk] at hok'
    | succ k =>
      rw [gOk] at hok'
      rw [gF] at hR'
      by_cases hj4:j = 4
      · subst hj4
        rw [if_pos rfl] at hok' hR'
        refine aj.of (o:=⟨.exit 2,dJ n s' base' bits ++ [(15,.int .i64 (4:Nat)),(16,.bool false)],H⟩) ?_ (.inr ⟨by simp,.inl ⟨rfl,rfl,s',base',k,by omega,by omega,by omega,hb',by simp [dJ,aZ,ay],hok',hR'⟩⟩)
        refine ⟨0,?_⟩
        simp only [dJ]
        simp (maxSteps:=2000000) -implicitDefEqProofs [-getElem?_pos,go_sem,eqV,ah]
      · rw [if_neg hj4] at hok' hR'
        have hjl:j < 4:=by omega
        have hjI:(j:Int) < 4:=by omega
        have hst:=VU (m:=m) (E:=H) (s:=s') (base:=base') (bits:=bits) (j:=j) hn (by omega) (by omega) hb' hjl
        by_cases hlt:n < base' + 2 ^ bits
        · rw [if_pos hlt] at hok' hR' hst
          subst hR'
          refine aj.of (o:=⟨.ret,lnR (s',base',bits),H⟩) ?_ (.inr ⟨by simp,.inr ⟨rfl,rfl,rfl,rfl⟩⟩)
          apply Run.seq (fr':=dJ n s' base' bits ++ [(15,.int .i64 (j:Nat)),(16,.bool true)]) (H':=H)
          · simp only [dJ]
            (refine ⟨0,?_⟩;simp (maxSteps:=2000000) -implicitDefEqProofs [-getElem?_pos,go_sem,eqV,ah,hjI,hjl])
          apply Run.seq (fr':=dJ n s' base' bits ++ [(15,.int .i64 (j:Nat)),(16,.bool true)]) (H':=H)
          · exact Run.cond (d:=true) (by simp [dJ,aJ,ay]) ⟨0,rfl⟩
          exact piece hst _ rfl
        · rw [if_neg hlt] at hok' hR' hst
          refine aj.of (o:=⟨.normal,dJ n (s' + 1) (base' + 2 ^ bits) bits ++ [(15,.int .i64 (j + 1:Nat))],H⟩) ?_ (.inl ⟨rfl,k,by omega,s' + 1,base' + 2 ^ bits,j + 1,by omega,by omega,by omega,by omega,rfl,rfl,hok',hR'⟩)
          apply Run.seq (fr':=dJ n s' base' bits ++ [(15,.int .i64 (j:Nat)),(16,.bool true)]) (H':=H)
          · simp only [dJ]
            (refine ⟨0,?_⟩;simp (maxSteps:=2000000) -implicitDefEqProofs [-getElem?_pos,go_sem,eqV,ah,hjI,hjl])
          apply Run.seq (fr':=dJ n s' base' bits ++ [(15,.int .i64 (j:Nat)),(16,.bool true)]) (H':=H)
          · exact Run.cond (d:=true) (by simp [dJ,aJ,ay]) ⟨0,rfl⟩
          exact piece hst _ rfl
  · rintro o (⟨h1,h2⟩ | ⟨h1,h2⟩)
    · exact .inl ⟨h1,h2⟩
    · exact .inr h2
def lenOf (n:Nat):Nat × Nat × Nat:=if n = 258 then (285,n,0) else if n≤10 then (254 + n,n,0) else gF 4 n 40 265 11 1 0
theorem y5 {per n n':Nat} (h:n≤n'):∀ (f s base bits j:Nat),gOk per n' f s base bits j = true→gOk per n f s base bits j = true
  | 0,_,_,_,_,h1=>by cases h1
  | f + 1,s,base,bits,j,h1=>by
    unfold gOk at h1 ⊢
    split
    · rename_i hj
      rw [if_pos hj] at h1
      exact y5 h f _ _ _ _ h1
    · rename_i hj
      rw [if_neg hj] at h1
      split
      · rfl
      · rename_i hn
        rw [if_neg (by omega)] at h1
        exact y5 h f _ _ _ _ h1
theorem Yg {n:Nat} (h:n≤258):gOk 4 n 40 265 11 1 0 = true:=y5 h _ _ _ _ _ (by decide +kernel)
theorem JR {m n:Nat} {E:AM.Heap} (h:n≤258):∃ code,Try.f33.body = some code∧aj (fun o=>o.ex = .ret∧o.fr = lnR (lenOf n)∧o.H = E) X (evT X) 33 m code [(0,.int .i64 (n:Nat))] E:=by
  refine ⟨_,rfl,?_⟩
  unfold lenOf
  apply aj.seq (fr':=[(0,.int .i64 (n:Nat))]) (H':=E)
  · (refine ⟨0,?_⟩;simp (maxSteps:=2000000) -implicitDefEqProofs [-getElem?_pos,go_sem,eqV,ah,ak])
  by_cases h1:n = 258
  · subst h1
    rw [if_pos rfl]
    refine aj.of (o:=⟨.ret,lnR (285,258,0),E⟩) ?_ ⟨rfl,rfl,rfl⟩
    refine ⟨0,?_⟩
    simp only [lnR]
    simp (maxSteps:=2000000) -implicitDefEqProofs [-getElem?_pos,go_sem,eqV,ah,ak]
  have h1I:¬ (n:Int) = 258:=by omega
  have h1b:((n:Int) == 258) = false:=by simpa using h1I
  rw [if_neg h1]
  apply aj.assoc
  apply aj.seq (fr':=[(0,.int .i64 (n:Nat)),(6,.bool false)]) (H':=E)
  · (refine ⟨0,?_⟩;simp (maxSteps:=2000000) -implicitDefEqProofs [-getElem?_pos,go_sem,eqV,ah,h1,h1I,h1b])
  apply aj.seq (fr':=[(0,.int .i64 (n:Nat)),(6,.bool false)]) (H':=E)
  · exact Run.cond (d:=false) (by simp [aJ,ay]) ⟨0,rfl⟩
  by_cases h2:n≤10
  · rw [if_pos h2]
    have h2I:(n:Int)≤10:=by omega
    have w1:IntKind.i64.wrap (254 + (n:Int)) = ((254 + n:Nat):Int):=by rw [wrap_i64 (by omega) (by omega)];omega
    refine aj.of (o:=⟨.ret,lnR (254 + n,n,0),E⟩) ?_ ⟨rfl,rfl,rfl⟩
    refine ⟨0,?_⟩
    simp only [lnR]
    generalize 254 + n = s at *
    simp (maxSteps:=2000000) -implicitDefEqProofs [-getElem?_pos,go_sem,eqV,ah,h2,h2I,w1,ak]
  rw [if_neg h2]
  have h2I:¬ (n:Int)≤10:=by omega
  apply aj.assoc
  apply aj.seq (fr':=[(0,.int .i64 (n:Nat)),(9,.bool false)]) (H':=E)
  · (refine ⟨0,?_⟩;simp (maxSteps:=2000000) -implicitDefEqProofs [-getElem?_pos,go_sem,eqV,ah,h2,h2I])
  apply aj.seq (fr':=[(0,.int .i64 (n:Nat)),(9,.bool false)]) (H':=E)
  · exact Run.cond (d:=false) (by simp [aJ,ay]) ⟨0,rfl⟩
  apply aj.seq (fr':=[(0,.int .i64 (n:Nat)),(2,.int .i64 265),(3,.int .i64 11)]) (H':=E)
  · (refine ⟨0,?_⟩;simp (maxSteps:=2000000) -implicitDefEqProofs [-getElem?_pos,go_sem,eqV,ah,ak])
  apply aj.seq (fr':=dJ n 265 11 1) (H':=E)
  · simp only [dJ]
    (refine ⟨0,?_⟩;simp (maxSteps:=2000000) -implicitDefEqProofs [-getElem?_pos,go_sem,eqV,ah,ak])
  refine aj.blk ?_ (fun o ho=>by rw [ho.1];simp)
  refine aj.kE (I:=fun k fr H=>∃ s base bits,s + k≤900∧bits + k≤41∧base≤n + 100000∧fr = dJ n s base bits∧H = E∧gOk 4 n k s base bits 0 = true∧gF 4 n k s base bits 0 = gF 4 n 40 265 11 1 0) ?_ (k:=40) ⟨265,11,1,by omega,by omega,by omega,rfl,rfl,Yg h,rfl⟩
  rintro k fr H ⟨s,base,bits,hs,vH,hb,rfl,rfl,hok,hR⟩
  generalize gF 4 n 40 265 11 1 0 = R at *
  have h8:∃ code,((Try.f33.body).bind (aI [1,1,1,1,1,0,0,0,0,0])) = some code∧Run X (evT X) 33 m code (dJ n s base bits) H ⟨.normal,dJ n s base bits ++ [(15,.int .i64 (0:Nat))],H⟩:=by
    refine ⟨_,rfl,?_⟩
    simp only [dJ]
    (refine ⟨0,?_⟩;simp (maxSteps:=2000000) -implicitDefEqProofs [-getElem?_pos,go_sem,eqV,ah])
  obtain ⟨XV,hcB,⟨ex,fr,H2⟩,hq,hrB⟩:=ZR (m:=m) (E:=H) (by omega) hs vH hb hok hR
  rcases hq with ⟨h3,h4,s',base',f',k1,k2,k3,k4,k5,k6,k7⟩ | ⟨h3,h4,h5⟩
  · simp only at h3 h4 k5
    subst h3 h4
    have g0:ay fr 0 = .int .i64 (n:Nat):=by simpa [aZ,dJ,ay] using congrArg (fun f=>ay f 0) k5
    have g2:ay fr 2 = .int .i64 (s':Nat):=by simpa [aZ,dJ,ay] using congrArg (fun f=>ay f 2) k5
    have g3:ay fr 3 = .int .i64 (base':Nat):=by simpa [aZ,dJ,ay] using congrArg (fun f=>ay f 3) k5
    have g4:ay fr 4 = .int .i64 (bits:Nat):=by simpa [aZ,dJ,ay] using congrArg (fun f=>ay f 4) k5
    refine aj.of (o:=⟨.normal,dJ n s' base' (bits + 1),H2⟩) ?_ (.inl ⟨rfl,f',k1,s',base',bits + 1,k2,k3,k4,rfl,rfl,k6,k7⟩)
    apply Run.seq (fr':=fr) (H':=H2)
    · refine Run.block ?_ (by simp)
      exact Run.seq (piece h8 _ rfl) ((Option.some.inj hcB) ▸ hrB)
    · have w1:IntKind.i64.wrap ((bits:Int) + 1) = ((bits + 1:Nat):Int):=by rw [wrap_i64 (by omega) (by omega)];omega
      generalize bits + 1 = b1 at *
      simp only [dJ]
      (refine ⟨0,?_⟩;simp (maxSteps:=2000000) -implicitDefEqProofs [-getElem?_pos,go_sem,eqV,ah,g0,g2,g3,g4,w1,ak])
  · simp only at h3 h4 h5
    subst h3 h4 h5
    refine aj.of (o:=⟨.ret,lnR R,H2⟩) ?_ (.inr ⟨by simp,rfl,rfl,rfl⟩)
    refine Run.bG ?_ (by simp)
    refine Run.block ?_ (by simp)
    exact Run.seq (piece h8 _ rfl) ((Option.some.inj hcB) ▸ hrB)
theorem QT {n:Nat} {H:AM.Heap} (h:n≤258):evT X 33 [.int .i64 (n:Nat)] H = some (.tup [.int .i64 ((lenOf n).1:Nat),.int .i64 ((lenOf n).2.1:Nat),.int .i64 ((lenOf n).2.2:Nat)],H):=by
  obtain ⟨code,hc,⟨out,⟨h1,h2,h3⟩,hr⟩⟩:=JR (m:=0) (E:=[]) h
  have hx:=ny (C:=X) (f:=33) (i:=0) (a:=.int .i64 (n:Nat)) (H:=H) rfl rfl (fV 1)
  refine fH (Ev1.DL (l:=[.int .i64 ((lenOf n).1:Nat),.int .i64 ((lenOf n).2.1:Nat),.int .i64 ((lenOf n).2.2:Nat)]) (dL X) Try.func33 hc hx rfl (by simp [dM]) rfl rfl rfl ?_)
  rw [ZT]
  refine ⟨out,⟨h1,?_⟩,hr⟩
  show aQ X out.fr out.H [.tmp 2,.tmp 3,.tmp 4] = _
  rw [h2]
  rfl
end Go.Proofs.Yteblpjhkgdpchaa
namespace Go.Proofs.Yteblpjhkgdpchaa
open Go.AM
theorem VW {m n s base bits j:Nat} {E:AM.Heap} (hn:n≤100000) (hs:s≤1000) (vH:bits≤40) (hb:base≤n + 100000) (hj:j < 2) :
    ∃ code,((Try.f34.body).bind (aI [1,1,1,1,0,0,0,0,1,0,0,1,1])) = some code∧Run X (evT X) 34 m code (dJ n s base bits ++ [(12,.int .i64 (j:Nat)),(13,.bool true)]) E (if n < base + 2 ^ bits then ⟨.ret,[(2,.int .i64 (s:Nat)),(3,.int .i64 (base:Nat)),(4,.int .i64 (bits:Nat))],E⟩ else ⟨.normal,dJ n (s + 1) (base + 2 ^ bits) bits ++ [(12,.int .i64 (j + 1:Nat))],E⟩):=by
  refine ⟨_,rfl,?_⟩
  have h1:2 ^ bits≤2 ^ 40:=Nat.pow_le_pow_right (by omega) vH
  have hp:=Tq vH
  generalize 2 ^ bits = pw at *
  have hb0:¬ (bits:Int) < 0:=by omega
  have w1:IntKind.i64.wrap ((base:Int) + ((pw:Nat):Int)) = ((base + pw:Nat):Int):=by rw [wrap_i64 (by omega) (by omega)];omega
  have w2:IntKind.i64.wrap ((s:Int) + 1) = ((s + 1:Nat):Int):=by rw [wrap_i64 (by omega) (by omega)];omega
  have w3:IntKind.i64.wrap ((j:Int) + 1) = ((j + 1:Nat):Int):=by rw [wrap_i64 (by omega) (by omega)];omega
  by_cases h:n < base + pw
  · rw [if_pos h]
    have hI:(n:Int) < ((base + pw:Nat):Int):=by omega
    generalize base + pw = nb at *
    refine Run.bG ?_ (by simp)
    refine Run.block ?_ (by simp)
    refine Run.bG ?_ (by simp)
    apply Run.seq (fr':=dJ n s base bits ++ [(12,.int .i64 (j:Nat)),(19,.bool true)]) (H':=E)
    · simp only [dJ]
      (refine ⟨0,?_⟩;simp (maxSteps:=2000000) -implicitDefEqProofs [-getElem?_pos,go_sem,eqV,ah,hp,hb0,w1,hI,h])
    refine Run.cond (d:=true) (by simp [dJ,aJ,ay]) ?_
    apply Run.seq (fr':=[(2,.int .i64 (s:Nat)),(3,.int .i64 (base:Nat)),(4,.int .i64 (bits:Nat))]) (H':=E)
    · simp only [dJ]
      (refine ⟨0,?_⟩;simp (maxSteps:=2000000) -implicitDefEqProofs [-getElem?_pos,go_sem,eqV,ah,ak])
    · exact ⟨0,rfl⟩
  · rw [if_neg h]
    have hI:¬ (n:Int) < ((base + pw:Nat):Int):=by omega
    generalize base + pw = nb at *
    generalize s + 1 = s1 at *
    generalize j + 1 = j1 at *
    apply Run.seq (fr':=dJ n s1 nb bits ++ [(12,.int .i64 (j:Nat))]) (H':=E)
    · refine Run.block ?_ (by simp)
      apply Run.seq (fr':=dJ n s base bits ++ [(12,.int .i64 (j:Nat)),(19,.bool false)]) (H':=E)
      · apply Run.seq (fr':=dJ n s base bits ++ [(12,.int .i64 (j:Nat)),(19,.bool false)]) (H':=E)
        · simp only [dJ]
          (refine ⟨0,?_⟩;simp (maxSteps:=2000000) -implicitDefEqProofs [-getElem?_pos,go_sem,eqV,ah,hp,hb0,w1,hI,h])
        · exact Run.cond (d:=false) (by simp [dJ,aJ,ay]) ⟨0,rfl⟩
      · simp only [dJ]
        (refine ⟨0,?_⟩;simp (maxSteps:=2000000) -implicitDefEqProofs [-getElem?_pos,go_sem,eqV,ah,hp,hb0,w1,w2,ak])
    · simp only [dJ]
      (refine ⟨0,?_⟩;simp (maxSteps:=2000000) -implicitDefEqProofs [-getElem?_pos,go_sem,eqV,ah,w3])
theorem ZU {m n s base bits f:Nat} {R:Nat × Nat × Nat} {E:AM.Heap} (hn:n≤100000) (hs:s + f≤900) (vH:bits + f≤41) (hb:base≤n + 100000) (hok:gOk 2 n f s base bits 0 = true) (hR:gF 2 n f s base bits 0 = R) :
    ∃ code,((Try.f34.body).bind (aI [1,1,1,1,0,0,0,0,1])) = some code∧aj (fun o=>(o.ex = .normal∧o.H = E∧∃ s' base' f',f' < f∧s' + f'≤900∧bits + 1 + f'≤41∧base'≤n + 100000∧aZ [0,2,3,4] o.fr = dJ n s' base' bits∧gOk 2 n f' s' base' (bits + 1) 0 = true∧gF 2 n f' s' base' (bits + 1) 0 = R)∨(o.ex = .ret∧o.fr = lnR R∧o.H = E)) X (evT X) 34 m code (dJ n s base bits ++ [(12,.int .i64 (0:Nat))]) E:=by
  refine ⟨_,rfl,?_⟩
  refine aj.mono (aj.Il (P:=fun fr H=>H = E∧∃ s' base' f',f' < f∧s' + f'≤900∧bits + 1 + f'≤41∧base'≤n + 100000∧aZ [0,2,3,4] fr = dJ n s' base' bits∧gOk 2 n f' s' base' (bits + 1) 0 = true∧gF 2 n f' s' base' (bits + 1) 0 = R) (Q:=fun o=>o.ex = .ret∧o.fr = lnR R∧o.H = E) ?_) ?_
  · refine aj.kE (I:=fun k fr H=>∃ s' base' j,k≤f∧s' + k≤900∧base'≤n + 100000∧j≤2∧fr = dJ n s' base' bits ++ [(12,.int .i64 (j:Nat))]∧H = E∧gOk 2 n k s' base' bits j = true∧gF 2 n k s' base' bits j = R) ?_ (k:=f) ⟨s,base,0,by omega,hs,hb,by omega,rfl,rfl,hok,hR⟩
    rintro k fr H ⟨s',base',j,hk,hsk,hb',hj,rfl,rfl,hok',hR'⟩
    cases k with
    | zero=>simp [gOk] at hok'
    | succ k =>
      rw [gOk] at hok'
      rw [gF] at hR'
      by_cases hj2:j = 2
      · subst hj2
        rw [if_pos rfl] at hok' hR'
        refine aj.of (o:=⟨.exit 2,dJ n s' base' bits ++ [(12,.int .i64 (2:Nat)),(13,.bool false)],H⟩) ?_ (.inr ⟨by simp,.inl ⟨rfl,rfl,s',base',k,by omega,by omega,by omega,hb',by simp [dJ,aZ,ay],hok',hR'⟩⟩)
        refine ⟨0,?_⟩
        simp only [dJ]
        simp (maxSteps:=2000000) -implicitDefEqProofs [-getElem?_pos,go_sem,eqV,ah]
      · rw [if_neg hj2] at hok' hR'
        have hjl:j < 2:=by omega
        have hjI:(j:Int) < 2:=by omega
        have hst:=VW (m:=m) (E:=H) (s:=s') (base:=base') (bits:=bits) (j:=j) hn (by omega) (by omega) hb' hjl
        by_cases hlt:n < base' + 2 ^ bits
        · rw [if_pos hlt] at hok' hR' hst
          subst hR'
          refine aj.of (o:=⟨.ret,lnR (s',base',bits),H⟩) ?_ (.inr ⟨by simp,.inr ⟨rfl,rfl,rfl,rfl⟩⟩)
          apply Run.seq (fr':=dJ n s' base' bits ++ [(12,.int .i64 (j:Nat)),(13,.bool true)]) (H':=H)
          · simp only [dJ]
            (refine ⟨0,?_⟩;simp (maxSteps:=2000000) -implicitDefEqProofs [-getElem?_pos,go_sem,eqV,ah,hjI,hjl])
          apply Run.seq (fr':=dJ n s' base' bits ++ [(12,.int .i64 (j:Nat)),(13,.bool true)]) (H':=H)
          · exact Run.cond (d:=true) (by simp [dJ,aJ,ay]) ⟨0,rfl⟩
          exact piece hst _ rfl
        · rw [if_neg hlt] at hok' hR' hst
          refine aj.of (o:=⟨.normal,dJ n (s' + 1) (base' + 2 ^ bits) bits ++ [(12,.int .i64 (j + 1:Nat))],H⟩) ?_ (.inl ⟨rfl,k,by omega,s' + 1,base' + 2 ^ bits,j + 1,by omega,by omega,by omega,by omega,rfl,rfl,hok',hR'⟩)
          apply Run.seq (fr':=dJ n s' base' bits ++ [(12,.int .i64 (j:Nat)),(13,.bool true)]) (H':=H)
          · simp only [dJ]
            (refine ⟨0,?_⟩;simp (maxSteps:=2000000) -implicitDefEqProofs [-getElem?_pos,go_sem,eqV,ah,hjI,hjl])
          apply Run.seq (fr':=dJ n s' base' bits ++ [(12,.int .i64 (j:Nat)),(13,.bool true)]) (H':=H)
          · exact Run.cond (d:=true) (by simp [dJ,aJ,ay]) ⟨0,rfl⟩
          exact piece hst _ rfl
  · rintro o (⟨h1,h2⟩ | ⟨h1,h2⟩)
    · exact .inl ⟨h1,h2⟩
    · exact .inr h2
def dY (n:Nat):Nat × Nat × Nat:=if n≤4 then (n - 1,n,0) else gF 2 n 40 4 5 1 0
theorem Io {n:Nat} (h:n≤32768):gOk 2 n 40 4 5 1 0 = true:=y5 h _ _ _ _ _ (by decide +kernel)
theorem FU {m n:Nat} {E:AM.Heap} (h0:1≤n) (h:n≤32768):∃ code,Try.f34.body = some code∧aj (fun o=>o.ex = .ret∧o.fr = lnR (dY n)∧o.H = E) X (evT X) 34 m code [(0,.int .i64 (n:Nat))] E:=by
  refine ⟨_,rfl,?_⟩
  unfold dY
  apply aj.seq (fr':=[(0,.int .i64 (n:Nat))]) (H':=E)
  · (refine ⟨0,?_⟩;simp (maxSteps:=2000000) -implicitDefEqProofs [-getElem?_pos,go_sem,eqV,ah,ak])
  by_cases h2:n≤4
  · rw [if_pos h2]
    have h2I:(n:Int)≤4:=by omega
    have w1:IntKind.i64.wrap ((n:Int) - 1) = ((n - 1:Nat):Int):=by rw [wrap_i64 (by omega) (by omega)];omega
    refine aj.of (o:=⟨.ret,lnR (n - 1,n,0),E⟩) ?_ ⟨rfl,rfl,rfl⟩
    refine ⟨0,?_⟩
    simp only [lnR]
    generalize n - 1 = s at *
    simp (maxSteps:=2000000) -implicitDefEqProofs [-getElem?_pos,go_sem,eqV,ah,h2,h2I,w1,ak]
  rw [if_neg h2]
  have h2I:¬ (n:Int)≤4:=by omega
  apply aj.assoc
  apply aj.seq (fr':=[(0,.int .i64 (n:Nat)),(6,.bool false)]) (H':=E)
  · (refine ⟨0,?_⟩;simp (maxSteps:=2000000) -implicitDefEqProofs [-getElem?_pos,go_sem,eqV,ah,h2,h2I])
  apply aj.seq (fr':=[(0,.int .i64 (n:Nat)),(6,.bool false)]) (H':=E)
  · exact Run.cond (d:=false) (by simp [aJ,ay]) ⟨0,rfl⟩
  apply aj.seq (fr':=[(0,.int .i64 (n:Nat)),(2,.int .i64 4),(3,.int .i64 5)]) (H':=E)
  · (refine ⟨0,?_⟩;simp (maxSteps:=2000000) -implicitDefEqProofs [-getElem?_pos,go_sem,eqV,ah,ak])
  apply aj.seq (fr':=dJ n 4 5 1) (H':=E)
  · simp only [dJ]
    (refine ⟨0,?_⟩;simp (maxSteps:=2000000) -implicitDefEqProofs [-getElem?_pos,go_sem,eqV,ah,ak])
  refine aj.blk ?_ (fun o ho=>by rw [ho.1];simp)
  refine aj.kE (I:=fun k fr H=>∃ s base bits,s + k≤900∧bits + k≤41∧base≤n + 100000∧fr = dJ n s base bits∧H = E∧gOk 2 n k s base bits 0 = true∧gF 2 n k s base bits 0 = gF 2 n 40 4 5 1 0) ?_ (k:=40) ⟨4,5,1,by omega,by omega,by omega,rfl,rfl,Io h,rfl⟩
  rintro k fr H ⟨s,base,bits,hs,vH,hb,rfl,rfl,hok,hR⟩
  generalize gF 2 n 40 4 5 1 0 = R at *
  have h8:∃ code,((Try.f34.body).bind (aI [1,1,1,1,0,0,0,0,0])) = some code∧Run X (evT X) 34 m code (dJ n s base bits) H ⟨.normal,dJ n s base bits ++ [(12,.int .i64 (0:Nat))],H⟩:=by
    refine ⟨_,rfl,?_⟩
    simp only [dJ]
    (refine ⟨0,?_⟩;simp (maxSteps:=2000000) -implicitDefEqProofs [-getElem?_pos,go_sem,eqV,ah])
  obtain ⟨XV,hcB,⟨ex,fr,H2⟩,hq,hrB⟩:=ZU (m:=m) (E:=H) (by omega) hs vH hb hok hR
  rcases hq with ⟨h3,h4,s',base',f',k1,k2,k3,k4,k5,k6,k7⟩ | ⟨h3,h4,h5⟩
  · simp only at h3 h4 k5
    subst h3 h4
    have g0:ay fr 0 = .int .i64 (n:Nat):=by simpa [aZ,dJ,ay] using congrArg (fun f=>ay f 0) k5
    have g2:ay fr 2 = .int .i64 (s':Nat):=by simpa [aZ,dJ,ay] using congrArg (fun f=>ay f 2) k5
    have g3:ay fr 3 = .int .i64 (base':Nat):=by simpa [aZ,dJ,ay] using congrArg (fun f=>ay f 3) k5
    have g4:ay fr 4 = .int .i64 (bits:Nat):=by simpa [aZ,dJ,ay] using congrArg (fun f=>ay f 4) k5
    refine aj.of (o:=⟨.normal,dJ n s' base' (bits + 1),H2⟩) ?_ (.inl ⟨rfl,f',k1,s',base',bits + 1,k2,k3,k4,rfl,rfl,k6,k7⟩)
    apply Run.seq (fr':=fr) (H':=H2)
    · refine Run.block ?_ (by simp)
      exact Run.seq (piece h8 _ rfl) ((Option.some.inj hcB) ▸ hrB)
    · have w1:IntKind.i64.wrap ((bits:Int) + 1) = ((bits + 1:Nat):Int):=by rw [wrap_i64 (by omega) (by omega)];omega
      generalize bits + 1 = b1 at *
      simp only [dJ]
      (refine ⟨0,?_⟩;simp (maxSteps:=2000000) -implicitDefEqProofs [-getElem?_pos,go_sem,eqV,ah,g0,g2,g3,g4,w1,ak])
  · simp only at h3 h4 h5
    subst h3 h4 h5
    refine aj.of (o:=⟨.ret,lnR R,H2⟩) ?_ (.inr ⟨by simp,rfl,rfl,rfl⟩)
    refine Run.bG ?_ (by simp)
    refine Run.block ?_ (by simp)
    exact Run.seq (piece h8 _ rfl) ((Option.some.inj hcB) ▸ hrB)
theorem JU {n:Nat} {H:AM.Heap} (h0:1≤n) (h:n≤32768):evT X 34 [.int .i64 (n:Nat)] H = some (.tup [.int .i64 ((dY n).1:Nat),.int .i64 ((dY n).2.1:Nat),.int .i64 ((dY n).2.2:Nat)],H):=by
  obtain ⟨code,hc,⟨out,⟨h1,h2,h3⟩,hr⟩⟩:=FU (m:=0) (E:=[]) h0 h
  have hx:=ny (C:=X) (f:=34) (i:=0) (a:=.int .i64 (n:Nat)) (H:=H) rfl rfl (fV 1)
  refine fH (Ev1.DL (l:=[.int .i64 ((dY n).1:Nat),.int .i64 ((dY n).2.1:Nat),.int .i64 ((dY n).2.2:Nat)]) (dL X) Try.func34 hc hx rfl (by simp [dM]) rfl rfl rfl ?_)
  rw [ZV]
  refine ⟨out,⟨h1,?_⟩,hr⟩
  show aQ X out.fr out.H [.tmp 2,.tmp 3,.tmp 4] = _
  rw [h2]
  rfl
end Go.Proofs.Yteblpjhkgdpchaa
namespace Go.Proofs.Yteblpjhkgdpchaa
open Go.AM
def iw:List Int→List Int→List Int × Int
  | n,[]=>(n,0)
  | n,x :: r=>if 0≤x∧x≤15 then iw (n.set x.toNat (IntKind.i64.wrap (n.getD x.toNat 0 + 1))) r else (n,2)
def z16:List Int:=[0,0,0,0,0,0,0,0,0,0,0,0,0,0,0,0]
def bf (l:List Int):List Int × Int:=if 320 < (l.length:Int) then (z16,3) else iw z16 l
def bx (n:List Int):Option AM.Obj:=some { p:=.pi .i64 n,g:=0,cap:=some 16,z:=1,row:=false,ids:=false,tg:=0 }
theorem xZ:∀ (l n:List Int),(iw n l).1.length = n.length
  | [],n=>rfl
  | x :: r,n=>by
    simp only [iw]
    split
    · rw [xZ r];simp
    · rfl
def pR (c:Nat) (l n todo:List Int):AM.Out :=
  if (iw n todo).2 = 0 then ⟨.exit 0,[(2,.ptr 0 0 0 0),(4,.ptr 1 0 0 0),(11,.ro c (.pi .i64 l) 1),(12,.int .i64 l.length),(13,.int .i64 l.length),(14,.bool false)],[bx z16,bx (iw n todo).1]⟩
  else ⟨.ret,[(2,.ptr 0 0 0 0),(3,.int .i64 (iw n todo).2)],[bx (iw n todo).1,bx (iw n todo).1]⟩
theorem JV (T:Cf) (c:Nat) (l:List Int) (h63:l.length < 9223372036854775808):∃ code,Try.f51.body = some code ∧
    Run X T 51 0 code [(0,.ro c (.pi .i64 l) 1)] [] ⟨.ret,[(2,.ptr 0 0 0 0),(3,.int .i64 (bf l).2)],[bx (bf l).1,bx (bf l).1]⟩:=by
  refine ⟨_,rfl,?_⟩
  by_cases hl:320 < (l.length:Int)
  · simp only [bf,hl,if_true]
    apply Run.seq
    · (refine ⟨0,?_⟩;conv=>lhs;simp (maxSteps:=2000000) -implicitDefEqProofs [-getElem?_pos,go_sem,eqV,ah])
    apply Run.seq
    · (refine ⟨0,?_⟩;conv=>lhs;simp (maxSteps:=2000000) -implicitDefEqProofs [-getElem?_pos,go_sem,eqV,ah])
    apply Run.bG
    · apply Run.seq
      · (refine ⟨0,?_⟩;conv=>lhs;simp (maxSteps:=2000000) -implicitDefEqProofs [-getElem?_pos,go_sem,eqV,ah,hl])
      · refine Run.cond (d:=true) rfl ?_
        apply Run.seq
        · (refine ⟨0,?_⟩;conv=>lhs;simp (maxSteps:=2000000) -implicitDefEqProofs [-getElem?_pos,go_sem,eqV,ah])
        · exact ⟨0,rfl⟩
    · simp
  · simp only [bf,hl,if_false]
    apply Run.seq
    · (refine ⟨0,?_⟩;conv=>lhs;simp (maxSteps:=2000000) -implicitDefEqProofs [-getElem?_pos,go_sem,eqV,ah])
    apply Run.seq
    · (refine ⟨0,?_⟩;conv=>lhs;simp (maxSteps:=2000000) -implicitDefEqProofs [-getElem?_pos,go_sem,eqV,ah])
    apply Run.seq
    · apply Run.seq
      · (refine ⟨0,?_⟩;conv=>lhs;simp (maxSteps:=2000000) -implicitDefEqProofs [-getElem?_pos,go_sem,eqV,ah,hl])
      · exact Run.cond (d:=false) rfl ⟨0,rfl⟩
    -- the loop
    apply Run.seq' (o:=jA 0 (pR c l z16 l))
    · apply Run.seq
      · (refine ⟨0,?_⟩;conv=>lhs;simp (maxSteps:=2000000) -implicitDefEqProofs [-getElem?_pos,go_sem,eqV,ah])
      · apply Run.block'
        refine Run.sJ (σ:=List Int × List Int × List Int) (fun s=>s.1.length = 16∧s.2.1 ++ s.2.2 = l) (fun s=>[(2,.ptr 0 0 0 0),(4,.ptr 1 0 0 0),(11,.ro c (.pi .i64 l) 1),(12,.int .i64 l.length),(13,.int .i64 (s.2.1.length:Nat))])
          (fun s=>[bx z16,bx s.1]) (fun s=>pR c l s.1 s.2.2) (fun s=>s.2.2.length) ?_ (z16,[],l) ⟨rfl,rfl⟩
        rintro ⟨n,done,todo⟩ ⟨hn,hd⟩
        simp only at hn hd ⊢
        cases todo with
        | nil =>
          right
          have hlen:done.length = l.length:=by rw [← hd];simp
          refine ⟨?_,by simp [pR,iw]⟩
          simp only [pR,iw,if_true]
          apply Run.seq
          · (refine ⟨0,?_⟩;conv=>lhs;simp (maxSteps:=2000000) -implicitDefEqProofs [-getElem?_pos,go_sem,eqV,ah,hlen])
          · apply Run.bG
            · exact Run.cond (d:=false) rfl ⟨0,rfl⟩
            · simp
        | cons x todo =>
          have hlt:done.length < l.length:=by rw [← hd];simp
          have hget:l[done.length]? = some x:=by rw [← hd];simp
          by_cases hx:0≤x∧x≤15
          · left
            obtain ⟨v,hv⟩:∃ v,n[x.toNat]? = some v:=⟨n[x.toNat]'(by omega),List.getElem?_eq_getElem (by omega)⟩
            refine ⟨(n.set x.toNat (IntKind.i64.wrap (v + 1)),done ++ [x],todo),⟨by simpa using hn,by simpa using hd⟩,?_,?_,by simp⟩
            · have lI:(done.length:Int) < (l.length:Int):=by omega
              have hx1:¬ x < 0:=by omega
              have hx2:¬ 15 < x:=by omega
              have hx3:x < 16:=by omega
              have e:IntKind.i64.wrap ((done.length:Int) + 1) = (done.length:Int) + 1:=wrap_i64 (by omega) (by omega)
              apply Run.seq
              · (refine ⟨0,?_⟩;conv=>lhs;simp (maxSteps:=2000000) -implicitDefEqProofs [-getElem?_pos,go_sem,eqV,ah,lI])
              apply Run.seq
              · exact Run.cond (d:=true) rfl ⟨0,rfl⟩
              apply Run.seq
              · apply Run.block
                · apply Run.seq
                  · (refine ⟨0,?_⟩;conv=>lhs;simp (maxSteps:=2000000) -implicitDefEqProofs [-getElem?_pos,go_sem,eqV,ah,hget,hlt])
                  apply Run.seq
                  · apply Run.seq
                    · (refine ⟨0,?_⟩;conv=>lhs;simp (maxSteps:=2000000) -implicitDefEqProofs [-getElem?_pos,go_sem,eqV,ah,hx1,hx2])
                    · exact Run.cond (d:=false) rfl ⟨0,rfl⟩
                  · (refine ⟨0,?_⟩;conv=>lhs;simp (maxSteps:=2000000) -implicitDefEqProofs [-getElem?_pos,go_sem,eqV,ah,hx.1,hx3,hv,bx,hn])
                · simp
              · (refine ⟨0,?_⟩;simp (maxSteps:=2000000) -implicitDefEqProofs [-getElem?_pos,go_sem,eqV,ah,e,bx,List.getD_eq_getElem?_getD,hv])
            · simp [pR,iw,hx,List.getD_eq_getElem?_getD,hv]
          · right
            refine ⟨?_,by simp [pR,iw,hx]⟩
            have lI:(done.length:Int) < (l.length:Int):=by omega
            simp only [pR,iw,hx,if_false]
            apply Run.seq
            · (refine ⟨0,?_⟩;conv=>lhs;simp (maxSteps:=2000000) -implicitDefEqProofs [-getElem?_pos,go_sem,eqV,ah,lI])
            apply Run.seq
            · exact Run.cond (d:=true) rfl ⟨0,rfl⟩
            apply Run.bG
            · apply Run.block
              · apply Run.seq
                · (refine ⟨0,?_⟩;conv=>lhs;simp (maxSteps:=2000000) -implicitDefEqProofs [-getElem?_pos,go_sem,eqV,ah,hget,hlt])
                apply Run.bG
                · refine Run.seq (fr':=[(2,.ptr 0 0 0 0),(4,.ptr 1 0 0 0),(6,.int .i64 x),(11,.ro c (.pi .i64 l) 1),(12,.int .i64 l.length),(13,.int .i64 done.length),(22,.bool true)]) (H':=[bx z16,bx n]) ⟨0,?_⟩ ?_
                  · by_cases hx1:x < 0
                    · simp (maxSteps:=2000000) -implicitDefEqProofs [-getElem?_pos,go_sem,eqV,ah,hx1]
                    · have hx2:15 < x:=by omega
                      simp (maxSteps:=2000000) -implicitDefEqProofs [-getElem?_pos,go_sem,eqV,ah,hx1,hx2]
                  · refine Run.cond (d:=true) rfl ?_
                    apply Run.seq
                    · (refine ⟨0,?_⟩;conv=>lhs;simp (maxSteps:=2000000) -implicitDefEqProofs [-getElem?_pos,go_sem,eqV,ah,bx,z16,hn])
                    · exact ⟨0,rfl⟩
                · simp
              · simp
            · simp
    · intro fr' H' h
      unfold pR at h
      split at h
      · rename_i he
        simp only [jA,if_true,Out.mk.injEq,true_and] at h
        obtain ⟨rfl,rfl⟩:=h
        rw [he]
        have hn:=xZ l z16
        generalize (iw z16 l).1 = n at hn ⊢
        have hn':n.length = 16:=hn
        apply Run.seq
        · (refine ⟨0,?_⟩;conv=>lhs;simp (maxSteps:=2000000) -implicitDefEqProofs [-getElem?_pos,go_sem,eqV,ah,bx,z16,hn'])
        · exact ⟨0,rfl⟩
      · simp [jA] at h
    · intro h
      unfold pR at h ⊢
      split at h
      · simp [jA] at h
      · rename_i he
        rw [if_neg he]
        rfl
end Go.Proofs.Yteblpjhkgdpchaa
namespace Go.Proofs.Yteblpjhkgdpchaa
open Go.AM
theorem jO (l:List Int):(bf l).1.length = 16:=by
  unfold bf
  split
  · rfl
  · rw [xZ];rfl
theorem Gn:∀ (l n:List Int),(iw n l).2 = 0→∀ x ∈ l,0≤x∧x≤15
  | [],n,_=>by simp
  | x :: r,n,h=>by
    simp only [iw] at h
    split at h
    · rename_i hx
      intro y hy
      rcases List.mem_cons.1 hy with rfl | hy
      · exact hx
      · exact Gn r _ h y hy
    · simp at h
theorem Nu {l:List Int} (h:(bf l).2 = 0):l.length≤320∧∀ x ∈ l,0≤x∧x≤15:=by
  unfold bf at h
  split at h
  · simp at h
  · rename_i hl
    exact ⟨by omega,Gn l z16 h⟩
def cnt (l:List Int):AV:=.tup [.agg (.pi .i64 (bf l).1),.int .i64 (bf l).2]
theorem QU (c:Nat) (l:List Int) (h63:l.length < 9223372036854775808):Ev1 X 51 [.ro c (.pi .i64 l) 1] [] (cnt l,[]):=by
  obtain ⟨code,hb,hr⟩:=JV (fun _ _ _=>.none) c l h63
  have hn:=jO l
  exact Ev1.plain (l:=[.agg (.pi .i64 (bf l).1),.int .i64 (bf l).2]) Below.none Try.func51 hb rfl rfl (by simp [dM]) hr (.inr rfl) (by
    have:Try.f51.results.toList = [.cell 2 73,.tmp 3]:=rfl
    rw [this]
    simp [-getElem?_pos,List.getElem?_cons_zero,aQ,uQ,ay,live,bx,FV,hn,vI]) rfl rfl
def S1 (f:Nat) (xs:List AV):Option (AV × AM.Heap) :=
  match f,xs with
  | 51,[.ro _ (.pi .i64 l) 1]=>if l.length < 9223372036854775808 then some (cnt l,[]) else .none
  | _,_=>.none
theorem XW:∀ f xs v N,S1 f xs = some (v,N)→Ev1 X f xs [] (v,N):=by
  intro f xs v N h
  unfold S1 at h
  split at h
  · split at h
    · rename_i hl
      simp only [Option.some.injEq,Prod.mk.injEq] at h
      obtain ⟨rfl,rfl⟩:=h
      exact QU _ _ hl
    · cases h
  · cases h
noncomputable def T1:Cf:=y7 X S1
theorem Tt:Below X T1:=vJ XW
theorem QV {H:AM.Heap} {a:AV} {l:List Int} (h:eG H a = some (.pi .i64 l)) (hl:l.length < 9223372036854775808):T1 51 [a] H = some (cnt l,H):=by
  obtain ⟨c,x,hx⟩:=iM (C:=X) (f:=51) (i:=0) rfl h (fV 1)
  unfold T1 y7
  rw [hx]
  simp [S1,hl,aB,ids,cnt,vK,qo,tags,aU,cu,kP,ren,bg]
theorem ZW (c t:Nat) (l:List Int) (H:AM.Heap) (hl:l.length < 9223372036854775808):T1 51 [.ro c (.pi .i64 l) t] H = some (cnt l,H):=QV rfl hl
def FW (n:List Int):Nat→Nat→Int→Int
  | 0,_,s=>s
  | k + 1,i,s=>FW n k (i + 1) (IntKind.i64.wrap (s + IntKind.i64.wrap (n.getD i 0 * 2 ^ (min (15 - i) 64))))
def jI (l:List Int):Bool × Int :=
  if (bf l).2 = 0 then
    if 32768 < FW (bf l).1 15 1 0 then (false,7) else (FW (bf l).1 15 1 0 == 32768,0)
  else (false,(bf l).2)
theorem Nv (c:Nat) (l:List Int) (h63:l.length < 9223372036854775808):∃ code,Try.f50.body = some code ∧
    Run X T1 50 0 code [(0,.ro c (.pi .i64 l) 1)] [] ⟨.ret,[(2,.bool (jI l).1),(3,.int .i64 (jI l).2)],[bx (bf l).1]⟩:=by
  refine ⟨_,rfl,?_⟩
  have hT:=fun H=>ZW c 1 l H h63
  have hn:=jO l
  unfold jI
  unfold cnt at hT
  generalize (bf l).1 = n at hT hn ⊢
  generalize (bf l).2 = e at hT ⊢
  apply Run.seq
  · (refine ⟨0,?_⟩;conv=>lhs;simp (maxSteps:=2000000) -implicitDefEqProofs [-getElem?_pos,go_sem,eqV,ah])
  apply Run.seq
  · (refine ⟨0,?_⟩;conv=>lhs;simp (maxSteps:=2000000) -implicitDefEqProofs [-getElem?_pos,go_sem,eqV,ah,hT,hn])
  by_cases he:e = 0
  · subst he
    simp only [if_true]
    apply Run.seq
    · apply Run.seq
      · (refine ⟨0,?_⟩;conv=>lhs;simp (maxSteps:=2000000) -implicitDefEqProofs [-getElem?_pos,go_sem,eqV,ah])
      · exact Run.cond (d:=false) rfl ⟨0,rfl⟩
    apply Run.seq
    · (refine ⟨0,?_⟩;conv=>lhs;simp (maxSteps:=2000000) -implicitDefEqProofs [-getElem?_pos,go_sem,eqV,ah])
    apply Run.seq (fr':=[(4,.ptr 0 0 0 0),(5,.int .i64 (FW n 15 1 0)),(6,.int .i64 16),(16,.bool false)]) (H':=[bx n])
    · apply Run.seq (fr':=[(4,.ptr 0 0 0 0),(5,.int .i64 0),(6,.int .i64 (1:Nat))]) (H':=[bx n])
      · (refine ⟨0,?_⟩;simp (maxSteps:=2000000) -implicitDefEqProofs [-getElem?_pos,go_sem,eqV,ah,bx])
      · apply Run.iU
        refine Run.sJ (σ:=Nat × Nat × Int) (fun s=>s.1 + s.2.1 = 16∧1≤s.2.1) (fun s=>[(4,.ptr 0 0 0 0),(5,.int .i64 s.2.2),(6,.int .i64 (s.2.1:Nat))]) (fun _=>[bx n])
          (fun s=>⟨.exit 0,[(4,.ptr 0 0 0 0),(5,.int .i64 (FW n s.1 s.2.1 s.2.2)),(6,.int .i64 16),(16,.bool false)],[bx n]⟩) (fun s=>s.1) ?_ (15,1,0) ⟨rfl,Nat.le_refl 1⟩
        rintro ⟨k,i,s⟩ ⟨hk,hi⟩
        simp only at hk hi ⊢
        cases k with
        | zero =>
          right
          have:i = 16:=by omega
          subst this
          refine ⟨?_,by simp⟩
          apply Run.bG
          · (refine ⟨0,?_⟩;simp (maxSteps:=2000000) -implicitDefEqProofs [-getElem?_pos,go_sem,eqV,ah,FW])
          · simp
        | succ k =>
          left
          refine ⟨(k,i + 1,IntKind.i64.wrap (s + IntKind.i64.wrap (n.getD i 0 * 2 ^ (min (15 - i) 64)))),⟨show k + (i + 1) = 16 by omega,show 1≤i + 1 by omega⟩,?_,rfl,by simp⟩
          obtain ⟨v,hv⟩:∃ v,n[i]? = some v:=⟨n[i]'(by omega),List.getElem?_eq_getElem (by omega)⟩
          have VX:(i:Int)≤15:=by omega
          have QW:i < 16:=by omega
          have Yh:(i:Int) < 16:=by omega
          have e1:IntKind.i64.wrap (15 - (i:Int)) = 15 - (i:Int):=wrap_i64 (by omega) (by omega)
          have e2:(15 - (i:Int)).toNat = 15 - i:=by omega
          have e3:¬ (15 - (i:Int) < 0):=by omega
          have e4:IntKind.i64.wrap ((i:Int) + 1) = (i:Int) + 1:=wrap_i64 (by omega) (by omega)
          apply Run.seq
          · (refine ⟨0,?_⟩;conv=>lhs;simp (maxSteps:=2000000) -implicitDefEqProofs [-getElem?_pos,go_sem,eqV,ah,VX])
          apply Run.seq
          · apply Run.block
            · (refine ⟨0,?_⟩;conv=>lhs;simp (maxSteps:=2000000) -implicitDefEqProofs [-getElem?_pos,go_sem,eqV,ah,bx,hn,QW,Yh,hv,e1,e2,e3,IntKind.bits])
            · simp
          · (refine ⟨0,?_⟩;simp (maxSteps:=2000000) -implicitDefEqProofs [-getElem?_pos,go_sem,eqV,ah,e4,List.getD_eq_getElem?_getD,hv,bx])
    · by_cases hs:32768 < FW n 15 1 0
      · simp only [hs,if_true]
        apply Run.bG
        · apply Run.seq
          · (refine ⟨0,?_⟩;conv=>lhs;simp (maxSteps:=2000000) -implicitDefEqProofs [-getElem?_pos,go_sem,eqV,ah,hs])
          · refine Run.cond (d:=true) rfl ?_
            apply Run.seq
            · (refine ⟨0,?_⟩;conv=>lhs;simp (maxSteps:=2000000) -implicitDefEqProofs [-getElem?_pos,go_sem,eqV,ah])
            · exact ⟨0,rfl⟩
        · simp
      · simp only [hs,if_false]
        apply Run.seq
        · apply Run.seq
          · (refine ⟨0,?_⟩;conv=>lhs;simp (maxSteps:=2000000) -implicitDefEqProofs [-getElem?_pos,go_sem,eqV,ah,hs])
          · exact Run.cond (d:=false) rfl ⟨0,rfl⟩
        apply Run.seq
        · (refine ⟨0,?_⟩;conv=>lhs;simp (maxSteps:=2000000) -implicitDefEqProofs [-getElem?_pos,go_sem,eqV,ah])
        · exact ⟨0,rfl⟩
  · simp only [he,if_false]
    have hb:(e != 0) = true:=by simpa using he
    apply Run.bG
    · apply Run.seq
      · (refine ⟨0,?_⟩;conv=>lhs;simp (maxSteps:=2000000) -implicitDefEqProofs [-getElem?_pos,go_sem,eqV,ah,hb])
      · refine Run.cond (d:=true) rfl ?_
        apply Run.seq
        · (refine ⟨0,?_⟩;conv=>lhs;simp (maxSteps:=2000000) -implicitDefEqProofs [-getElem?_pos,go_sem,eqV,ah,bx])
        · exact ⟨0,rfl⟩
    · simp
end Go.Proofs.Yteblpjhkgdpchaa
namespace Go.Proofs.Yteblpjhkgdpchaa
open Go.AM
def mP (n:List Int):Option AM.Obj:=some { p:=.pi .i64 n,g:=0,cap:=some 17,z:=1,row:=false,ids:=false,tg:=0 }
def z17:List Int:=[0,0,0,0,0,0,0,0,0,0,0,0,0,0,0,0,0]
def qp (n:List Int):Nat→Nat→List Int→List Int
  | 0,_,f=>f
  | k + 1,i,f=>qp n k (i + 1) (f.set (i + 1) (IntKind.i64.wrap (IntKind.i64.wrap (f.getD i 0 + n.getD i 0) * 2)))
def dQ (n:List Int):List Int:=qp (n.set 0 0) 15 1 z17
theorem kQ (n:List Int):∀ (k i:Nat) (f:List Int),(qp n k i f).length = f.length
  | 0,_,_=>rfl
  | k + 1,i,f=>by rw [qp,kQ n k];simp
theorem JW (T:Cf) (n0:List Int) (hn0:n0.length = 16):∃ code,Try.f52.body = some code ∧
    Run X T 52 0 code [(0,.agg (.pi .i64 n0))] [] ⟨.ret,[(2,.ptr 1 0 0 0)],[bx (n0.set 0 0),mP (dQ n0),mP (dQ n0)]⟩:=by
  refine ⟨_,rfl,?_⟩
  unfold dQ
  have hn:(n0.set 0 0).length = 16:=by simpa using hn0
  have h0:0 < n0.length:=by omega
  apply Run.seq
  · (refine ⟨0,?_⟩;conv=>lhs;simp (maxSteps:=2000000) -implicitDefEqProofs [-getElem?_pos,go_sem,eqV,ah,hn0])
  apply Run.seq
  · (refine ⟨0,?_⟩;conv=>lhs;simp (maxSteps:=2000000) -implicitDefEqProofs [-getElem?_pos,go_sem,eqV,ah])
  apply Run.seq (fr':=[(1,.ptr 0 0 0 0),(2,.ptr 1 0 0 0),(3,.ptr 2 0 0 0)]) (H':=[bx (n0.set 0 0),mP z17,mP z17])
  · (refine ⟨0,?_⟩;simp (maxSteps:=2000000) -implicitDefEqProofs [-getElem?_pos,go_sem,eqV,ah,h0,bx,mP,z17,hn0])
  generalize n0.set 0 0 = n at hn ⊢
  have hlen:=kQ n 15 1 z17
  apply Run.seq (fr':=[(1,.ptr 0 0 0 0),(2,.ptr 1 0 0 0),(3,.ptr 2 0 0 0),(4,.int .i64 16),(7,.bool false)]) (H':=[bx n,mP z17,mP (qp n 15 1 z17)])
  · apply Run.seq (fr':=[(1,.ptr 0 0 0 0),(2,.ptr 1 0 0 0),(3,.ptr 2 0 0 0),(4,.int .i64 (1:Nat))]) (H':=[bx n,mP z17,mP z17])
    · (refine ⟨0,?_⟩;simp (maxSteps:=2000000) -implicitDefEqProofs [-getElem?_pos,go_sem,eqV,ah])
    · apply Run.iU
      refine Run.sJ (σ:=Nat × Nat × List Int) (fun s=>s.1 + s.2.1 = 16∧1≤s.2.1∧s.2.2.length = 17) (fun s=>[(1,.ptr 0 0 0 0),(2,.ptr 1 0 0 0),(3,.ptr 2 0 0 0),(4,.int .i64 (s.2.1:Nat))]) (fun s=>[bx n,mP z17,mP s.2.2])
        (fun s=>⟨.exit 0,[(1,.ptr 0 0 0 0),(2,.ptr 1 0 0 0),(3,.ptr 2 0 0 0),(4,.int .i64 16),(7,.bool false)],[bx n,mP z17,mP (qp n s.1 s.2.1 s.2.2)]⟩) (fun s=>s.1) ?_ (15,1,z17) ⟨rfl,Nat.le_refl 1,rfl⟩
      rintro ⟨k,i,f⟩ ⟨hk,hi,hf⟩
      simp only at hk hi hf ⊢
      cases k with
      | zero =>
        right
        have:i = 16:=by omega
        subst this
        refine ⟨?_,by simp⟩
        apply Run.bG
        · (refine ⟨0,?_⟩;simp (maxSteps:=2000000) -implicitDefEqProofs [-getElem?_pos,go_sem,eqV,ah,qp])
        · simp
      | succ k =>
        left
        refine ⟨(k,i + 1,f.set (i + 1) (IntKind.i64.wrap (IntKind.i64.wrap (f.getD i 0 + n.getD i 0) * 2))),⟨show k + (i + 1) = 16 by omega,show 1≤i + 1 by omega,by simpa using hf⟩,?_,rfl,by simp⟩
        obtain ⟨v,hv⟩:∃ v,n[i]? = some v:=⟨n[i]'(by omega),List.getElem?_eq_getElem (by omega)⟩
        obtain ⟨u,hu⟩:∃ v,f[i]? = some v:=⟨f[i]'(by omega),List.getElem?_eq_getElem (by omega)⟩
        have VX:(i:Int)≤15:=by omega
        have QW:i < 16:=by omega
        have Yh:(i:Int) < 16:=by omega
        have aen:(i:Int) < 17:=by omega
        have aeo:i + 1 < 17:=by omega
        have VY:i < 17:=by omega
        have hiI:(i:Int) + 1 < 17:=by omega
        have hiJ:(0:Int)≤(i:Int) + 1:=by omega
        have e4:IntKind.i64.wrap ((i:Int) + 1) = (i:Int) + 1:=wrap_i64 (by omega) (by omega)
        have e5:((i:Int) + 1).toNat = i + 1:=by omega
        apply Run.seq
        · (refine ⟨0,?_⟩;conv=>lhs;simp (maxSteps:=2000000) -implicitDefEqProofs [-getElem?_pos,go_sem,eqV,ah,VX])
        apply Run.seq
        · apply Run.block
          · (refine ⟨0,?_⟩;conv=>lhs;simp (maxSteps:=2000000) -implicitDefEqProofs [-getElem?_pos,go_sem,eqV,ah,bx,mP,hn,hf,QW,Yh,aen,aeo,VY,hiI,hiJ,hv,hu,e4,e5,IntKind.bits])
          · simp
        · (refine ⟨0,?_⟩;simp (maxSteps:=2000000) -implicitDefEqProofs [-getElem?_pos,go_sem,eqV,ah,e4,List.getD_eq_getElem?_getD,hv,hu,bx,mP])
  generalize qp n 15 1 z17 = F at hlen ⊢
  have hF:F.length = 17:=hlen
  apply Run.seq
  · (refine ⟨0,?_⟩;conv=>lhs;simp (maxSteps:=2000000) -implicitDefEqProofs [-getElem?_pos,go_sem,eqV,ah,bx,mP,z17,hF])
  · exact ⟨0,rfl⟩
def ckV (l:List Int):AV:=.tup [.bool (jI l).1,.int .i64 (jI l).2]
theorem Tv (c:Nat) (l:List Int) (h63:l.length < 9223372036854775808):Ev1 X 50 [.ro c (.pi .i64 l) 1] [] (ckV l,[]):=by
  obtain ⟨code,hb,hr⟩:=Nv c l h63
  exact Ev1.plain (l:=[.bool (jI l).1,.int .i64 (jI l).2]) Tt Try.func50 hb rfl rfl (by simp [dM]) hr (.inr rfl) rfl rfl rfl
theorem QX (n:List Int) (hn:n.length = 16):Ev1 X 52 [.agg (.pi .i64 n)] [] (.agg (.pi .i64 (dQ n)),[]):=by
  obtain ⟨code,hb,hr⟩:=JW (fun _ _ _=>.none) n hn
  have hF:(dQ n).length = 17:=kQ _ _ _ _
  exact Ev1.plain (l:=[.agg (.pi .i64 (dQ n))]) Below.none Try.func52 hb rfl rfl (by simp [dM]) hr (.inr rfl) (by
    have:Try.f52.results.toList = [.cell 2 76]:=rfl
    rw [this]
    simp [-getElem?_pos,List.getElem?_cons_zero,List.getElem?_cons_succ,aQ,uQ,ay,live,bx,mP,FV,hF,vI]) rfl rfl
def S2 (f:Nat) (xs:List AV):Option (AV × AM.Heap) :=
  match f,xs with
  | 50,[.ro _ (.pi .i64 l) 1]=>if l.length < 9223372036854775808 then some (ckV l,[]) else .none
  | 52,[.agg (.pi .i64 n)]=>if n.length = 16 then some (.agg (.pi .i64 (dQ n)),[]) else .none
  | f,xs=>S1 f xs
theorem ZX:∀ f xs v N,S2 f xs = some (v,N)→Ev1 X f xs [] (v,N):=by
  intro f xs v N h
  unfold S2 at h
  split at h
  · split at h
    · rename_i hl
      simp only [Option.some.injEq,Prod.mk.injEq] at h
      obtain ⟨rfl,rfl⟩:=h
      exact Tv _ _ hl
    · cases h
  · split at h
    · rename_i hl
      simp only [Option.some.injEq,Prod.mk.injEq] at h
      obtain ⟨rfl,rfl⟩:=h
      exact QX _ hl
    · cases h
  · exact XW _ _ _ _ h
noncomputable def T2:Cf:=y7 X S2
theorem y8:Below X T2:=vJ ZX
theorem Gp {H:AM.Heap} {a:AV} {l:List Int} (h:eG H a = some (.pi .i64 l)) (hl:l.length < 9223372036854775808):T2 51 [a] H = some (cnt l,H):=by
  obtain ⟨c,x,hx⟩:=iM (C:=X) (f:=51) (i:=0) rfl h (fV 1)
  unfold T2 y7
  rw [hx]
  simp [S1,S2,hl,aB,ids,cnt,vK,qo,tags,aU,cu,kP,ren,bg]
theorem DN {H:AM.Heap} {a:AV} {l:List Int} (h:eG H a = some (.pi .i64 l)) (hl:l.length < 9223372036854775808):T2 50 [a] H = some (ckV l,H):=by
  obtain ⟨c,x,hx⟩:=iM (C:=X) (f:=50) (i:=0) rfl h (fV 1)
  unfold T2 y7
  rw [hx]
  simp [S2,hl,aB,ids,ckV,vK,qo,tags,aU,cu,kP,ren,bg]
theorem Gq {H:AM.Heap} {n:List Int} (hn:n.length = 16):T2 52 [.agg (.pi .i64 n)] H = some (.agg (.pi .i64 (dQ n)),H):=by
  unfold T2 y7
  rw [ny (C:=X) (f:=52) (i:=0) rfl rfl (fV 1)]
  simp [S2,hn,aB,ids,vK,qo,tags,aU,cu,kP,ren,bg]
end Go.Proofs.Yteblpjhkgdpchaa
namespace Go.Proofs.Yteblpjhkgdpchaa
open Go.AM
def DR:Option AM.Obj:=some { p:=.pi .i64 [],g:=0,cap:=.none,z:=0,row:=true,ids:=false,tg:=0 }
def nC (k:Nat) (l:List Int):Option AM.Obj:=some { p:=.pi .i64 l,g:=0,cap:=some k,z:=1,row:=true,ids:=false,tg:=0 }
def oZ:List Int→List Int→List Int
  | _,[]=>[]
  | next,x :: r=>if 0 < x then next.getD x.toNat 0 :: oZ (next.set x.toNat (IntKind.i64.wrap (next.getD x.toNat 0 + 1))) r else -1 :: oZ next r
def vM:List Int→List Int→List Int
  | next,[]=>next
  | next,x :: r=>if 0 < x then vM (next.set x.toNat (IntKind.i64.wrap (next.getD x.toNat 0 + 1))) r else vM next r
theorem x9:∀ (next l:List Int),(oZ next l).length = l.length
  | _,[]=>rfl
  | next,x :: r=>by
    simp only [oZ]
    split <;> simp [x9 _ r]
def nD (l:List Int):List Int:=oZ (dQ (bf l).1) l
theorem set_mid (pre:List Int) (v w:Int) (n k:Nat) (h:k = pre.length):(pre ++ List.replicate (n + 1) v).set k w = (pre ++ [w]) ++ List.replicate n v:=by
  subst h
  rw [List.set_append_right _ _ (Nat.le_refl _),Nat.sub_self,List.replicate_succ,List.set_cons_zero]
  simp
def DT (c:Nat) (l:List Int) (i:Nat):AM.Frame:=[(8,.ptr 2 0 0 0),(9,.sl 3 0 l.length 0),(30,.ro c (.pi .i64 l) 1),(31,.int .i64 l.length),(32,.int .i64 (i:Nat))]
theorem Nw (c:Nat) (l:List Int) (he:(jI l).2 = 0):∃ code,Try.f31.body = some code ∧
    Run X T2 31 0 code [(0,.ro c (.pi .i64 l) 1)] [] ⟨.ret,[(2,.sl 3 0 l.length 0),(3,.int .i64 0)],[DR,bx (bf l).1,mP (vM (dQ (bf l).1) l),nC l.length (nD l)]⟩:=by
  have hce:(bf l).2 = 0:=by
    unfold jI at he
    split at he
    · assumption
    · rename_i h;exact absurd he h
  obtain ⟨ama,hall⟩:=Nu hce
  have h63:l.length < 9223372036854775808:=by omega
  have hn:=jO l
  have hm1:(l.length:Int)≤9223372036854775807:=by omega
  have hm2:8 * (l.length:Int)≤140737488355328:=by omega
  have hT:=fun H=>DN (H:=H) (a:=.ro c (.pi .i64 l) 1) rfl h63
  have hC:=fun H=>Gp (H:=H) (a:=.ro c (.pi .i64 l) 1) rfl h63
  have hF:=fun H=>Gq (H:=H) hn
  unfold ckV at hT
  unfold cnt at hC
  unfold nD
  rw [hce] at hC
  have hf:(dQ (bf l).1).length = 17:=kQ _ _ _ _
  generalize (bf l).1 = n at hn hC hF hf ⊢
  generalize dQ n = JX at hF hf ⊢
  refine ⟨_,rfl,?_⟩
  apply Run.seq
  · (refine ⟨0,?_⟩;conv=>lhs;simp (maxSteps:=2000000) -implicitDefEqProofs [-getElem?_pos,go_sem,eqV,ah,rowOf,bM])
  apply Run.seq
  · (refine ⟨0,?_⟩;conv=>lhs;simp (maxSteps:=2000000) -implicitDefEqProofs [-getElem?_pos,go_sem,eqV,ah,hT,he])
  apply Run.seq
  · (refine ⟨0,?_⟩;conv=>lhs;simp (maxSteps:=2000000) -implicitDefEqProofs [-getElem?_pos,go_sem,eqV,ah,hC,hn])
  apply Run.seq
  · (refine ⟨0,?_⟩;conv=>lhs;simp (maxSteps:=2000000) -implicitDefEqProofs [-getElem?_pos,go_sem,eqV,ah,hF,hn,hf])
  apply Run.seq (fr':=[(0,.ro c (.pi .i64 l) 1),(8,.ptr 2 0 0 0),(9,.sl 3 0 l.length 0)]) (H':=[DR,bx n,mP JX,nC l.length (List.replicate l.length 0)])
  · (refine ⟨0,?_⟩;simp (maxSteps:=2000000) -implicitDefEqProofs [-getElem?_pos,go_sem,eqV,ah,kR,nZ,eF,scalars,aB,ids,aU,rowOf,hm1,hm2,DR,bx,mP,nC])
  apply Run.seq (fr':=DT c l l.length ++ [(33,.bool false)]) (H':=[DR,bx n,mP (vM JX l),nC l.length (oZ JX l)])
  · apply Run.seq (fr':=DT c l 0) (H':=[DR,bx n,mP JX,nC l.length ([] ++ List.replicate l.length 0)])
    · (refine ⟨0,?_⟩;simp (maxSteps:=2000000) -implicitDefEqProofs [-getElem?_pos,go_sem,eqV,ah,DT])
    · apply Run.iU
      refine Run.sJ (σ:=List Int × List Int × List Int × List Int) (fun s=>s.1.length = 17∧s.2.1.length = s.2.2.1.length∧s.2.2.1 ++ s.2.2.2 = l) (fun s=>DT c l s.2.2.1.length)
        (fun s=>[DR,bx n,mP s.1,nC l.length (s.2.1 ++ List.replicate s.2.2.2.length 0)])
        (fun s=>⟨.exit 0,DT c l l.length ++ [(33,.bool false)],[DR,bx n,mP (vM s.1 s.2.2.2),nC l.length (s.2.1 ++ oZ s.1 s.2.2.2)]⟩) (fun s=>s.2.2.2.length) ?_ (JX,[],[],l) ⟨hf,rfl,rfl⟩
      rintro ⟨next,pre,done,todo⟩ ⟨hnx,hpre,hd⟩
      simp only at hnx hpre hd ⊢
      cases todo with
      | nil =>
        right
        have hlen:done.length = l.length:=by rw [← hd];simp
        refine ⟨?_,by simp⟩
        simp only [oZ,vM,List.append_nil]
        apply Run.seq
        · (refine ⟨0,?_⟩;conv=>lhs;simp (maxSteps:=2000000) -implicitDefEqProofs [-getElem?_pos,go_sem,eqV,ah,hlen,DT])
        · apply Run.bG
          · exact Run.cond (d:=false) rfl ⟨0,rfl⟩
          · simp
      | cons x todo =>
        left
        have hlt:done.length < l.length:=by rw [← hd];simp
        have hget:l[done.length]? = some x:=by rw [← hd];simp
        have hx:=hall x (by rw [← hd];simp)
        have lI:(done.length:Int) < (l.length:Int):=by omega
        have e:IntKind.i64.wrap ((done.length:Int) + 1) = (done.length:Int) + 1:=wrap_i64 (by omega) (by omega)
        have hlp:done.length < (pre ++ List.replicate (todo.length + 1) (0:Int)).length:=by simp;omega
        have hset:∀ w,(pre ++ List.replicate (todo.length + 1) 0).set done.length w = (pre ++ [w]) ++ List.replicate todo.length 0:=fun w=>set_mid pre 0 w todo.length done.length hpre.symm
        generalize hP:pre ++ List.replicate (todo.length + 1) (0:Int) = P at hlp hset
        by_cases hx0:0 < x
        · obtain ⟨v,hv⟩:∃ v,next[x.toNat]? = some v:=⟨next[x.toNat]'(by omega),List.getElem?_eq_getElem (by omega)⟩
          have aep:x < 17:=by omega
          have aer:x.toNat < 17:=by omega
          refine ⟨(next.set x.toNat (IntKind.i64.wrap (v + 1)),pre ++ [v],done ++ [x],todo),⟨by simpa using hnx,by simpa using hpre,by simpa using hd⟩,?_,?_,by simp⟩
          · apply Run.seq
            · (refine ⟨0,?_⟩;conv=>lhs;simp (maxSteps:=2000000) -implicitDefEqProofs [-getElem?_pos,go_sem,eqV,ah,lI,DT])
            apply Run.seq
            · exact Run.cond (d:=true) rfl ⟨0,rfl⟩
            apply Run.seq
            · apply Run.block
              · (refine ⟨0,?_⟩;conv=>lhs;simp (maxSteps:=2000000) -implicitDefEqProofs [-getElem?_pos,go_sem,eqV,ah,hget,hlt,DR,bx,mP,nC,hx0,hx.1,aep,aer,hnx,hv,hlp])
              · simp
            · (refine ⟨0,?_⟩;simp (maxSteps:=2000000) -implicitDefEqProofs [-getElem?_pos,go_sem,eqV,ah,e,DT,DR,bx,mP,nC,hset])
          · simp [oZ,vM,hx0,List.getD_eq_getElem?_getD,hv]
        · refine ⟨(next,pre ++ [-1],done ++ [x],todo),⟨hnx,by simpa using hpre,by simpa using hd⟩,?_,?_,by simp⟩
          · apply Run.seq
            · (refine ⟨0,?_⟩;conv=>lhs;simp (maxSteps:=2000000) -implicitDefEqProofs [-getElem?_pos,go_sem,eqV,ah,lI,DT])
            apply Run.seq
            · exact Run.cond (d:=true) rfl ⟨0,rfl⟩
            apply Run.seq
            · apply Run.block
              · (refine ⟨0,?_⟩;conv=>lhs;simp (maxSteps:=2000000) -implicitDefEqProofs [-getElem?_pos,go_sem,eqV,ah,hget,hlt,DR,bx,mP,nC,hx0,hlp])
              · simp
            · (refine ⟨0,?_⟩;simp (maxSteps:=2000000) -implicitDefEqProofs [-getElem?_pos,go_sem,eqV,ah,e,DT,DR,bx,mP,nC,hset])
          · simp [oZ,vM,hx0]
  apply Run.seq
  · (refine ⟨0,?_⟩;conv=>lhs;simp (maxSteps:=2000000) -implicitDefEqProofs [-getElem?_pos,go_sem,eqV,ah,DT])
  · exact ⟨0,rfl⟩
end Go.Proofs.Yteblpjhkgdpchaa
