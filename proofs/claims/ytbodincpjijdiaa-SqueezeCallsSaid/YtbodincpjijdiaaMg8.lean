/- QL to DL: texts of this claim, one behind the other; what each shows stands at its head. -/
import Derived.Test.YtbodincpjijdiaaMg7
set_option linter.unusedSimpArgs false
set_option linter.unusedVariables false
set_option maxRecDepth 100000
set_option maxHeartbeats 8000000
namespace Go.Proofs.Ytbodincpjijdiaa
open Go.AM
section
variable {c:Nat} {l:List Px}
theorem UY {m i n g d:Nat} {x:Px} {o:List UInt8} {ob:AM.Obj} {E:AM.Heap} (hx:l[i]? = some x) (hn:x.len = (n:Nat)) (hd:x.dist = (d:Nat)) (hd1:1≤d) (hd2:d≤o.length) (ho:E[1]? = some (some ob)) (hw:Rw (.pb o) g ob) (hol:o.length + n≤1000000) :
    ∃ code,((Try.f61.body).bind (aF [1,1,0,1,0,0,1,0,0,1,1,1,1])) = some code∧aj (Goes fun fr E'=>∃ g' ob',bY [0,4,5] fr = gV (.sl 1 0 (iE d n o).length g') c l i∧E'[1]? = some (some ob')∧Rw (.pb (iE d n o)) g' ob') X (evT X) 61 m code (tZ (.sl 1 0 o.length g) c l i 0) E:=by
  refine ⟨_,rfl,?_⟩
  apply aj.block
  refine aj.kJ (I:=fun k fr E'=>∃ j o' g' ob',j≤n∧k = n - j∧fr = tZ (.sl 1 0 o'.length g') c l i j∧E'[1]? = some (some ob')∧Rw (.pb o') g' ob'∧o'.length = o.length + j∧iE d (n - j) o' = iE d n o) ?_ (k:=n) ⟨0,o,g,ob,by omega,rfl,rfl,ho,hw,rfl,rfl⟩
  rintro k fr E' ⟨j,o',g',ob',hj,rfl,rfl,ho',hw',hlen,hc⟩
  have h12:=Xb (m:=m) (c:=c) (j:=j) (v:=.sl 1 0 o'.length g') (E:=E') hx hn
  by_cases hjn:j = n
  · subst hjn
    rw [Nat.sub_self] at hc
    rw [decide_eq_false (by omega)] at h12
    refine aj.of (o:=⟨.exit 2,tZ (.sl 1 0 o'.length g') c l i j ++ [(47,.bool false)],E'⟩) ?_ (.inr ⟨by simp,rfl,g',ob',by rw [← hc];simp [tZ,gV,bY,au,iE],ho',by rw [← hc];exact hw'⟩)
    refine Run.bH ?_ (by simp)
    apply Run.seq (piece h12 _ rfl)
    exact Run.cond (d:=false) (by simp [tZ,aC,au]) ⟨0,rfl⟩
  · have hlt:j < n:=by omega
    rw [decide_eq_true hlt] at h12
    obtain ⟨ob2,w1,hr⟩:=Xc (m:=m) (c:=c) (j:=j) (tl:=[(47,.bool true)]) hx hd hd1 (by omega) ho' hw' (by omega)
    have hn1:n - j = (n - (j + 1)) + 1:=by omega
    rw [hn1,iE] at hc
    refine aj.of (o:=⟨.normal,tZ (.sl 1 0 (o'.length + 1) (g' + 1)) c l i (j + 1),upd E' 1 (some ob2)⟩) ?_ (.inl ⟨rfl,n - (j + 1),by omega,j + 1,o' ++ [o'.getD (o'.length - d) 0],g' + 1,ob2,by omega,rfl,by simp,setAt ho',w1,by simp;omega,hc⟩)
    apply Run.seq (fr':=tZ (.sl 1 0 o'.length g') c l i j ++ [(47,.bool true)]) (H':=E')
    · apply Run.seq (piece h12 _ rfl)
      exact Run.cond (d:=true) (by simp [tZ,aC,au]) ⟨0,rfl⟩
    apply Run.seq (fr':=tZ (.sl 1 0 (o'.length + 1) (g' + 1)) c l i j) (H':=upd E' 1 (some ob2))
    · apply Run.block
      · exact piece hr _ rfl
      · simp
    · have w4:IntKind.i64.wrap ((j:Int) + 1) = ((j + 1:Nat):Int):=by
        have:=hw'.g
        rw [wrap_i64 (by omega) (by omega)];omega
      generalize j + 1 = j1 at *
      simp only [tZ]
      generalize l.map pxR = R at *
      generalize o'.length + 1 = K at *
      (refine ⟨0,?_⟩;simp (maxSteps:=2000000) -implicitDefEqProofs [-getElem?_pos,go_sem,eqV,ah,w4])
theorem UZ {m i g:Nat} {x:Px} {o:List UInt8} {ob:AM.Obj} {E:AM.Heap} (hx:l[i]? = some x) (hl:l.length≤2000) (ho:E[1]? = some (some ob)) (hw:Rw (.pb o) g ob) (hol:o.length≤258 * i) (he:iy (l.drop i) o = iy l []) :
    ∃ code,((Try.f61.body).bind (aF [1,1,0,1,0,0,1])) = some code∧aj (fun out=>(out.ex = .normal∧∃ o' g' ob',out.fr = gV (.sl 1 0 o'.length g') c l (i + 1)∧out.H[1]? = some (some ob')∧Rw (.pb o') g' ob'∧o'.length≤258 * (i + 1)∧iy (l.drop (i + 1)) o' = iy l [])∨(out.ex = .ret∧exX l out.fr out.H)) X (evT X) 61 m code (gV (.sl 1 0 o.length g) c l i ++ [(10,.bool true)]) E:=by
  refine ⟨_,rfl,?_⟩
  have hi:=eY hx
  have hdrop:l.drop i = x :: l.drop (i + 1):=by
    rw [List.drop_eq_getElem_cons hi]
    rw [List.getElem?_eq_getElem hi] at hx
    rw [Option.some.inj hx]
  rw [hdrop,iy] at he
  have hr5:=aaF (m:=m) (c:=c) (v:=.sl 1 0 o.length g) (tl:=[(10,.bool true)]) (E:=E) hx
  have hr7:=aaG (m:=m) (c:=c) (v:=.sl 1 0 o.length g) (tl:=[(18,.bool false)]) (E:=E) hx
  have w1:IntKind.i64.wrap ((i:Int) + 1) = ((i + 1:Nat):Int):=by rw [wrap_i64 (by omega) (by omega)];omega
  by_cases hm:jy x = false
  · rw [if_pos hm] at he
    rw [hm] at hr5
    refine aj.of (o:=⟨.ret,[(2,.sl E.length 0 0 0),(3,.int .i64 2)],E ++ [some (⟨.pb [],0,none,0,true,false,0⟩:AM.Obj)]⟩) ?_ (.inr ⟨rfl,[],2,E.length,0,_,he.symm,rfl,rfl,List.getElem?_concat_length,⟨rfl,rfl,rfl,rfl,rfl⟩⟩)
    refine Run.bH ?_ (by simp)
    refine Run.block ?_ (by simp)
    refine Run.bH ?_ (by simp)
    apply Run.seq (piece hr5 _ rfl)
    refine Run.cond (d:=true) (by simp [gV,aC,au]) ?_
    apply Run.seq (fr':=[(2,.sl E.length 0 0 0),(3,.int .i64 2)]) (H':=E ++ [some (⟨.pb [],0,none,0,true,false,0⟩:AM.Obj)])
    · simp only [gV]
      generalize l.map pxR = R at *
      generalize o.length = K at *
      (refine ⟨0,?_⟩;simp (maxSteps:=2000000) -implicitDefEqProofs [-getElem?_pos,go_sem,eqV,ah,ak,rowOf,oP])
    · exact ⟨0,rfl⟩
  have hmt:jy x = true:=by simpa using hm
  rw [if_neg hm] at he
  rw [hmt] at hr5
  by_cases h0:x.len = 0
  · rw [if_pos h0] at he
    rw [decide_eq_true h0] at hr7
    obtain ⟨ob',k1,k2⟩:=mY (C:=X) (T:=22) (e:=5) (H:=E) (o:=1) (m:=[x.byte]) (src:=.ro 1 (.pb [x.byte]) 0) kK rV kL bytes5 qC ho hw (.inl (by simp [gU,jF,kM])) (by simp;omega)
    simp only [List.length_singleton] at k2
    have hr8:=aaH (m:=m) (c:=c) (tl:=[(24,.bool true)]) hx k2
    refine aj.of (o:=⟨.normal,gV (.sl 1 0 (o.length + 1) (g + 1)) c l (i + 1),upd E 1 (some ob')⟩) ?_ (.inl ⟨rfl,o ++ [x.byte],g + 1,ob',by simp,setAt ho,k1,by simp;omega,he⟩)
    apply Run.seq (fr':=gV (.sl 1 0 (o.length + 1) (g + 1)) c l i) (H':=upd E 1 (some ob'))
    · refine Run.eF ?_
      apply Run.seq (fr':=gV (.sl 1 0 o.length g) c l i ++ [(18,.bool false)]) (H':=E)
      · apply Run.seq (piece hr5 _ rfl)
        exact Run.cond (d:=false) (by simp [gV,aC,au]) ⟨0,rfl⟩
      refine Run.bH ?_ (by simp)
      apply Run.seq (piece hr7 _ rfl)
      refine Run.cond (d:=true) (by simp [gV,aC,au]) ?_
      exact Run.seq (piece hr8 _ rfl) ⟨0,rfl⟩
    · simp only [gV]
      generalize l.map pxR = R at *
      generalize o.length + 1 = K at *
      generalize i + 1 = i1 at *
      (refine ⟨0,?_⟩;simp (maxSteps:=2000000) -implicitDefEqProofs [-getElem?_pos,go_sem,eqV,ah,w1])
  rw [if_neg h0] at he
  rw [decide_eq_false h0] at hr7
  obtain ⟨n,d,hn,hd,n3,n258,d1⟩:=yw hmt h0
  have hr9:=aaI (m:=m) (c:=c) (tl:=[(24,.bool false)]) hx ho hw
  by_cases hbig:(o.length:Int) < x.dist
  · rw [if_pos hbig] at he
    rw [decide_eq_true hbig] at hr9
    refine aj.of (o:=⟨.ret,[(2,.sl E.length 0 0 0),(3,.int .i64 5)],E ++ [some (⟨.pb [],0,none,0,true,false,0⟩:AM.Obj)]⟩) ?_ (.inr ⟨rfl,[],5,E.length,0,_,he.symm,rfl,rfl,List.getElem?_concat_length,⟨rfl,rfl,rfl,rfl,rfl⟩⟩)
    refine Run.bH ?_ (by simp)
    refine Run.block ?_ (by simp)
    apply Run.seq (fr':=gV (.sl 1 0 o.length g) c l i ++ [(18,.bool false)]) (H':=E)
    · apply Run.seq (piece hr5 _ rfl)
      exact Run.cond (d:=false) (by simp [gV,aC,au]) ⟨0,rfl⟩
    apply Run.seq (fr':=gV (.sl 1 0 o.length g) c l i ++ [(24,.bool false)]) (H':=E)
    · apply Run.seq (piece hr7 _ rfl)
      exact Run.cond (d:=false) (by simp [gV,aC,au]) ⟨0,rfl⟩
    refine Run.bH ?_ (by simp)
    apply Run.seq (piece hr9 _ rfl)
    refine Run.cond (d:=true) (by simp [gV,aC,au]) ?_
    apply Run.seq (fr':=[(2,.sl E.length 0 0 0),(3,.int .i64 5)]) (H':=E ++ [some (⟨.pb [],0,none,0,true,false,0⟩:AM.Obj)])
    · simp only [gV]
      generalize l.map pxR = R at *
      generalize o.length = K at *
      (refine ⟨0,?_⟩;simp (maxSteps:=2000000) -implicitDefEqProofs [-getElem?_pos,go_sem,eqV,ah,ak,rowOf,oP])
    · exact ⟨0,rfl⟩
  rw [if_neg hbig,hn,hd] at he
  simp only [Int.toNat_natCast] at he
  rw [decide_eq_false hbig] at hr9
  have hcl:=qX d n o
  obtain ⟨Qv,hcB,⟨⟨ex,fr,E2⟩,⟨he2,g',ob',hfr,ho',hw'⟩,hrB⟩⟩:=UY (m:=m) (c:=c) hx hn hd d1 (by omega) ho hw (by omega)
  simp only at he2 hfr ho'
  subst he2
  refine aj.of (o:=⟨.normal,gV (.sl 1 0 (iE d n o).length g') c l (i + 1),E2⟩) ?_ (.inl ⟨rfl,iE d n o,g',ob',rfl,ho',hw',by rw [hcl];omega,he⟩)
  apply Run.seq (fr':=fr) (H':=E2)
  · refine Run.block ?_ (by simp)
    apply Run.seq (fr':=gV (.sl 1 0 o.length g) c l i ++ [(18,.bool false)]) (H':=E)
    · apply Run.seq (piece hr5 _ rfl)
      exact Run.cond (d:=false) (by simp [gV,aC,au]) ⟨0,rfl⟩
    apply Run.seq (fr':=gV (.sl 1 0 o.length g) c l i ++ [(24,.bool false)]) (H':=E)
    · apply Run.seq (piece hr7 _ rfl)
      exact Run.cond (d:=false) (by simp [gV,aC,au]) ⟨0,rfl⟩
    apply Run.seq (fr':=gV (.sl 1 0 o.length g) c l i ++ [(40,.bool false)]) (H':=E)
    · apply Run.seq (piece hr9 _ rfl)
      exact Run.cond (d:=false) (by simp [gV,aC,au]) ⟨0,rfl⟩
    apply Run.seq (fr':=tZ (.sl 1 0 o.length g) c l i 0) (H':=E)
    · simp only [gV,tZ]
      generalize l.map pxR = R at *
      generalize o.length = K at *
      (refine ⟨0,?_⟩;simp (maxSteps:=2000000) -implicitDefEqProofs [-getElem?_pos,go_sem,eqV,ah])
    · exact (Option.some.inj hcB) ▸ hrB
  · have g0:au fr 0 = .ro c (.pr 3 (l.map pxR)) 1:=by simpa [bY,gV,au] using congrArg (fun f=>au f 0) hfr
    have g4:au fr 4 = .sl 1 0 (iE d n o).length g':=by simpa [bY,gV,au] using congrArg (fun f=>au f 4) hfr
    have g5:au fr 5 = .int .i64 (i:Nat):=by simpa [bY,gV,au] using congrArg (fun f=>au f 5) hfr
    simp only [gV]
    generalize l.map pxR = R at *
    generalize (iE d n o).length = K at *
    generalize i + 1 = i1 at *
    (refine ⟨0,?_⟩;simp (maxSteps:=2000000) -implicitDefEqProofs [-getElem?_pos,go_sem,eqV,ah,g0,g4,g5,w1])
theorem Hr {m:Nat} (hl:l.length≤2000):∃ code,Try.f61.body = some code∧aj (jV (exX l)) X (evT X) 61 m code [(0,.ro c (.pr 3 (l.map pxR)) 1)] []:=by
  refine ⟨_,rfl,?_⟩
  apply aj.seq (fr':=[(0,.ro c (.pr 3 (l.map pxR)) 1)]) (H':=[some (⟨.pb [],0,none,0,true,false,0⟩:AM.Obj)])
  · generalize l.map pxR = R at *
    (refine ⟨0,?_⟩;simp (maxSteps:=2000000) -implicitDefEqProofs [-getElem?_pos,go_sem,eqV,ah,ak,rowOf,oP])
  apply aj.seq (fr':=[(0,.ro c (.pr 3 (l.map pxR)) 1),(4,.sl 1 0 0 0)]) (H':=[some (⟨.pb [],0,none,0,true,false,0⟩:AM.Obj),some (⟨.pb [],0,none,0,true,false,0⟩:AM.Obj)])
  · generalize l.map pxR = R at *
    (refine ⟨0,?_⟩;simp (maxSteps:=2000000) -implicitDefEqProofs [-getElem?_pos,go_sem,eqV,ah,ak,rowOf,oP])
  have hE:([some (⟨.pb [],0,none,0,true,false,0⟩:AM.Obj),some (⟨.pb [],0,none,0,true,false,0⟩:AM.Obj)]:AM.Heap)[1]? = some (some ⟨.pb [],0,none,0,true,false,0⟩):=rfl
  generalize [some (⟨.pb [],0,none,0,true,false,0⟩:AM.Obj),some (⟨.pb [],0,none,0,true,false,0⟩:AM.Obj)] = E0 at *
  apply aj.assoc
  apply aj.seq (fr':=gV (.sl 1 0 0 0) c l 0) (H':=E0)
  · simp only [gV]
    generalize l.map pxR = R at *
    (refine ⟨0,?_⟩;simp (maxSteps:=2000000) -implicitDefEqProofs [-getElem?_pos,go_sem,eqV,ah])
  have hll:(l.map pxR).length = l.length:=by simp
  refine aj.EL (P:=fun fr E=>∃ o g ob,iy l [] = (o,0)∧au fr 4 = .sl 1 0 o.length g∧E[1]? = some (some ob)∧Rw (.pb o) g ob) ?_ ?_
  · refine aj.kJ (I:=fun k fr E'=>∃ i o g ob,i≤l.length∧k = l.length - i∧fr = gV (.sl 1 0 o.length g) c l i∧E'[1]? = some (some ob)∧Rw (.pb o) g ob∧o.length≤258 * i∧iy (l.drop i) o = iy l []) ?_ (k:=l.length) ⟨0,[],0,_,by omega,rfl,rfl,hE,⟨rfl,rfl,rfl,rfl,rfl⟩,by simp,rfl⟩
    rintro k fr E' ⟨i,o,g,ob,hi,rfl,rfl,ho,hw,hol,he⟩
    by_cases hin:i = l.length
    · rw [List.drop_of_length_le (by omega),iy] at he
      refine aj.of (o:=⟨.exit 0,gV (.sl 1 0 o.length g) c l i ++ [(10,.bool false)],E'⟩) ?_ (.inr ⟨by simp,.inl ⟨rfl,o,g,ob,he.symm,by simp [gV,au],ho,hw⟩⟩)
      have hnI:¬ (i:Int) < (l.length:Int):=by omega
      have hnN:¬ i < l.length:=by omega
      refine ⟨0,?_⟩
      simp only [gV]
      generalize l.map pxR = R at *
      generalize l.length = N at *
      generalize o.length = K at *
      simp (maxSteps:=2000000) -implicitDefEqProofs [-getElem?_pos,go_sem,eqV,ah,hll,hnI,hnN]
    · have hlt:i < l.length:=by omega
      have iT:(i:Int) < (l.length:Int):=by omega
      obtain ⟨x,hx⟩:∃ x,l[i]? = some x:=⟨_,List.getElem?_eq_getElem hlt⟩
      apply aj.assoc
      apply aj.seq (fr':=gV (.sl 1 0 o.length g) c l i ++ [(10,.bool true)]) (H':=E')
      · simp only [gV]
        generalize l.map pxR = R at *
        generalize l.length = N at *
        generalize o.length = K at *
        (refine ⟨0,?_⟩;simp (maxSteps:=2000000) -implicitDefEqProofs [-getElem?_pos,go_sem,eqV,ah,hll,iT,hlt])
      apply aj.seq (fr':=gV (.sl 1 0 o.length g) c l i ++ [(10,.bool true)]) (H':=E')
      · exact Run.cond (d:=true) (by simp [gV,aC,au]) ⟨0,rfl⟩
      refine (piece (UZ (m:=m) (c:=c) hx hl ho hw hol he) _ rfl).mono ?_
      rintro out (⟨h1,o',g',ob',h2,h3,h4,h5,h6⟩ | ⟨h1,h2⟩)
      · exact .inl ⟨h1,l.length - (i + 1),by omega,i + 1,o',g',ob',by omega,rfl,h2,h3,h4,h5,h6⟩
      · exact .inr ⟨by rw [h1];simp,.inr ⟨h1,h1,h2⟩⟩
  · rintro fr E' ⟨o,g,ob,he,h4,ho,hw⟩
    refine aj.of (o:=⟨.ret,[(2,.sl 1 0 o.length g),(3,.int .i64 0)],E'⟩) ?_ ⟨rfl,o,0,1,g,ob,he,rfl,rfl,ho,hw⟩
    refine ⟨0,?_⟩
    generalize o.length = K at *
    simp (maxSteps:=2000000) -implicitDefEqProofs [-getElem?_pos,go_sem,eqV,ah,h4,ak]
theorem MI {H:AM.Heap} {a:AV} (ha:gq H a = some (.pr 3 (l.map pxR))) (hl:l.length≤2000):∃ ob,Rw (.pb (iy l []).1) 0 ob∧evT X 61 [a] H = some (.tup [.sl H.length 0 (iy l []).1.length 0,.int .i64 (iy l []).2],H ++ [some ob]):=by
  obtain ⟨c,x,hx⟩:=dS (C:=X) (f:=61) (i:=0) rfl ha (bU 1)
  obtain ⟨code,hc,⟨out,⟨ho,o,e,a2,g,ob,h1,h2,h3,h4,hw⟩,hrun⟩⟩:=Hr (m:=0) (c:=c) (l:=l) hl
  rw [h1]
  obtain ⟨ob',q1,q2⟩:=Ev1.wZ (C:=X) (H:=H) (bn X) (n:=o.length) (l:=o) (rest:=[.int .i64 e]) Try.func61 hc hx rfl (by simp [bW]) rfl rfl rfl (by
    rw [Zg]
    refine ⟨out,⟨ho,a2,g,ob,?_,h4,hw⟩,hrun⟩
    show aQ X out.fr out.H [.tmp 2,.tmp 3] = _
    simp [aQ,h2,h3])
  exact ⟨ob',q1,dA (by simpa [aO,fU] using q2)⟩
end
end Go.Proofs.Ytbodincpjijdiaa
namespace Go.Proofs.Ytbodincpjijdiaa
open Go.AM
def fV (o6 o7 o8 o10 o12 c:Nat) (l:List Px) (i:Nat):AM.Frame:=[(0,.ro c (.pr 3 (l.map pxR)) 1),(6,.sl o6 0 288 0),(7,.sl o7 0 32 0),(8,.sl o8 0 288 0),(10,.sl o10 0 32 0),(12,.ptr o12 0 0 0),(13,.int .i64 (i:Nat))]
structure GxV (E:AM.Heap) (o6 o7 o8 o10 o12:Nat) (oa:Option Nat) (s:Ws):Prop where
  r6:E[o6]? = some (dD 288 flL)
  r7:E[o7]? = some (dD 32 flD)
  r8:E[o8]? = some (dD 288 lcL)
  r10:E[o10]? = some (dD 32 dcL)
  wr:WrV 0 E o12 oa s
  lt:o6 < o12∧o7 < o12∧o8 < o12∧o10 < o12
  oa:∀ a,oa = some a→o12 < a
  ok:gQ s
section
variable {E:AM.Heap} {o6 o7 o8 o10 o12:Nat} {oa:Option Nat} {s:Ws}
theorem GxV.step {E':AM.Heap} {oa':Option Nat} {s':Ws} (h:GxV E o6 o7 o8 o10 o12 oa s) (hw:WrV 0 E' o12 oa' s') (hk:Kpw E E' o12 oa oa') (hok:gQ s'):GxV E' o6 o7 o8 o10 o12 oa' s':=by
  obtain ⟨l6,l7,l8,l10⟩:=h.lt
  have hl:=h.wr.lt'
  have keep:∀ j,j < o12→E'[j]? = E[j]?:=fun j hj=>hk.rest j (by omega) (by omega) fun a ha=>by have:=h.oa a ha;omega
  refine ⟨by rw [keep _ l6];exact h.r6,by rw [keep _ l7];exact h.r7,by rw [keep _ l8];exact h.r8,by rw [keep _ l10];exact h.r10,hw,h.lt,?_,hok⟩
  intro a ha
  cases hq:oa with
  | none=>have:=hk.new a hq ha;omega
  | some z =>
    have:=hk.same z hq
    rw [ha] at this
    cases this
    exact h.oa _ hq
theorem XO {m i c:Nat} {x:Px} {l:List Px} {tl:AM.Frame} (hx:l[i]? = some x):∃ code,((Try.f45.body).bind (aF [1,1,1,1,1,1,1,1,1,0,1,0,0,1,0,0,0,0])) = some code∧Run X (evT X) 45 m code (fV o6 o7 o8 o10 o12 c l i ++ tl) E ⟨.normal,fV o6 o7 o8 o10 o12 c l i ++ [(57,.bool (decide (x.len = 0)))],E⟩:=by
  refine ⟨_,rfl,?_⟩
  obtain ⟨h1,h2,h3⟩:=tC hx
  simp only [fV,pxR] at h1 ⊢
  generalize l.map pxR = R at *
  generalize hN:R.length = N at *
  by_cases h:x.len = 0
  · have hb:(x.len == 0) = true:=by simpa using h
    rw [decide_eq_true h]
    (refine ⟨0,?_⟩;simp (maxSteps:=2000000) -implicitDefEqProofs [-getElem?_pos,go_sem,eqV,ah,h1,h2,h3,hN,h,hb])
  · have hb:(x.len == 0) = false:=by simpa using h
    rw [decide_eq_false h]
    (refine ⟨0,?_⟩;simp (maxSteps:=2000000) -implicitDefEqProofs [-getElem?_pos,go_sem,eqV,ah,h1,h2,h3,hN,h,hb])
theorem XP {m i c:Nat} {x:Px} {l:List Px} {tl:AM.Frame} (hx:l[i]? = some x):∃ code,((Try.f45.body).bind (aF [1,1,1,1,1,1,1,1,1,0,1,0,0,1,0,0,0,1,0,0])) = some code∧Run X (evT X) 45 m code (fV o6 o7 o8 o10 o12 c l i ++ tl) E ⟨.normal,fV o6 o7 o8 o10 o12 c l i ++ [(14,.int .i64 (x.byte.toNat:Nat))],E⟩:=by
  refine ⟨_,rfl,?_⟩
  obtain ⟨h1,h2,h3⟩:=tC hx
  have hy:=x.byte.toNat_lt
  have w1:IntKind.i64.wrap (x.byte.toNat:Int) = (x.byte.toNat:Int):=wrap_i64 (by omega) (by omega)
  simp only [fV,pxR] at h1 ⊢
  generalize l.map pxR = R at *
  generalize hN:R.length = N at *
  (refine ⟨0,?_⟩;simp (maxSteps:=2000000) -implicitDefEqProofs [-getElem?_pos,go_sem,eqV,ah,h1,h2,h3,hN,w1])
theorem XQ {m i u v w c:Nat} {l:List Px} {tl:AM.Frame} (h:GxV E o6 o7 o8 o10 o12 oa s) (hl:s.k≤7000000) (hu:u < 288):∃ E' oa',GxV E' o6 o7 o8 o10 o12 oa' (iY s lcL flL u)∧Kpw E E' o12 oa oa'∧∃ code,((Try.f45.body).bind (aF [1,1,1,1,1,1,1,1,1,0,1,0,0,1,0,0,0,1,0,1,0])) = some code∧Run X (evT X) 45 m code (fV o6 o7 o8 o10 o12 c l i ++ [(14,.int .i64 (u:Nat))]) E ⟨.normal,fV o6 o7 o8 o10 o12 c l i,E'⟩:=by
  obtain ⟨n0,n9⟩:=qA _ hu
  have hc:=iZ (l:=lcL) (y:=u) (by unfold lcL;rw [jM,jc];exact hu)
  have hf:=iZ (l:=flL) (y:=u) (by rw [jc];exact hu)
  obtain ⟨E',oa',g1,g2,g3⟩:=yF (x:=lcL.getD u 0) (I:=flL.getD u 0) (n:=(flL.getD u 0).toNat) (by omega) h.wr h.ok (by omega) (by omega)
  have hs:=iq (cs:=lcL) (ls:=flL) (y:=u) h.ok
  refine ⟨E',oa',h.step g2 g3 hs.1,g3,_,rfl,?_⟩
  have q6:=h.r6;have q8:=h.r8
  have huI:(u:Int) < 288:=by omega
  simp only [flO,dD] at q6 q8
  simp only [fV]
  generalize lcL.getD u 0 = v1 at *
  generalize flL.getD u 0 = v2 at *
  generalize l.map pxR = R at *
  generalize lcL = LC at *
  generalize flL = LL at *
  (refine ⟨0,?_⟩;simp (maxSteps:=2000000) -implicitDefEqProofs [-getElem?_pos,go_sem,eqV,ah,retag,q6,q8,huI,hu,hc,hf,g1])
theorem XR {m i u v w c:Nat} {l:List Px} {tl:AM.Frame} (h:GxV E o6 o7 o8 o10 o12 oa s) (hl:s.k≤7000000) (hu:u < 288):∃ E' oa',GxV E' o6 o7 o8 o10 o12 oa' (iY s lcL flL u)∧Kpw E E' o12 oa oa'∧∃ code,((Try.f45.body).bind (aF [1,1,1,1,1,1,1,1,1,0,1,0,0,1,0,0,1,1,1,0])) = some code∧Run X (evT X) 45 m code (fV o6 o7 o8 o10 o12 c l i ++ [(15,.int .i64 (u:Nat)),(16,.int .i64 (v:Nat)),(17,.int .i64 (w:Nat))]) E ⟨.normal,fV o6 o7 o8 o10 o12 c l i ++ [(16,.int .i64 (v:Nat)),(17,.int .i64 (w:Nat))],E'⟩:=by
  obtain ⟨n0,n9⟩:=qA _ hu
  have hc:=iZ (l:=lcL) (y:=u) (by unfold lcL;rw [jM,jc];exact hu)
  have hf:=iZ (l:=flL) (y:=u) (by rw [jc];exact hu)
  obtain ⟨E',oa',g1,g2,g3⟩:=yF (x:=lcL.getD u 0) (I:=flL.getD u 0) (n:=(flL.getD u 0).toNat) (by omega) h.wr h.ok (by omega) (by omega)
  have hs:=iq (cs:=lcL) (ls:=flL) (y:=u) h.ok
  refine ⟨E',oa',h.step g2 g3 hs.1,g3,_,rfl,?_⟩
  have q6:=h.r6;have q8:=h.r8
  have huI:(u:Int) < 288:=by omega
  simp only [flO,dD] at q6 q8
  simp only [fV]
  generalize lcL.getD u 0 = v1 at *
  generalize flL.getD u 0 = v2 at *
  generalize l.map pxR = R at *
  generalize lcL = LC at *
  generalize flL = LL at *
  (refine ⟨0,?_⟩;simp (maxSteps:=2000000) -implicitDefEqProofs [-getElem?_pos,go_sem,eqV,ah,retag,q6,q8,huI,hu,hc,hf,g1])
theorem XT {m i u v w c:Nat} {l:List Px} {tl:AM.Frame} (h:GxV E o6 o7 o8 o10 o12 oa s) (hl:s.k≤7000000) (hu:u < 32):∃ E' oa',GxV E' o6 o7 o8 o10 o12 oa' (iY s dcL flD u)∧Kpw E E' o12 oa oa'∧∃ code,((Try.f45.body).bind (aF [1,1,1,1,1,1,1,1,1,0,1,0,0,1,0,0,1,1,1,1,1,1,1,0])) = some code∧Run X (evT X) 45 m code (fV o6 o7 o8 o10 o12 c l i ++ [(15,.int .i64 (u:Nat)),(16,.int .i64 (v:Nat)),(17,.int .i64 (w:Nat))]) E ⟨.normal,fV o6 o7 o8 o10 o12 c l i ++ [(16,.int .i64 (v:Nat)),(17,.int .i64 (w:Nat))],E'⟩:=by
  obtain ⟨n0,n9⟩:=BN _ hu
  have hc:=iZ (l:=dcL) (y:=u) (by unfold dcL;rw [jM,pY];exact hu)
  have hf:=iZ (l:=flD) (y:=u) (by rw [pY];exact hu)
  obtain ⟨E',oa',g1,g2,g3⟩:=yF (x:=dcL.getD u 0) (I:=flD.getD u 0) (n:=(flD.getD u 0).toNat) (by omega) h.wr h.ok (by omega) (by omega)
  have hs:=iq (cs:=dcL) (ls:=flD) (y:=u) h.ok
  refine ⟨E',oa',h.step g2 g3 hs.1,g3,_,rfl,?_⟩
  have q6:=h.r7;have q8:=h.r10
  have huI:(u:Int) < 32:=by omega
  simp only [flO,dD] at q6 q8
  simp only [fV]
  generalize dcL.getD u 0 = v1 at *
  generalize flD.getD u 0 = v2 at *
  generalize l.map pxR = R at *
  generalize dcL = LC at *
  generalize flD = LL at *
  (refine ⟨0,?_⟩;simp (maxSteps:=2000000) -implicitDefEqProofs [-getElem?_pos,go_sem,eqV,ah,retag,q6,q8,huI,hu,hc,hf,g1])
theorem XU {m i c n:Nat} {x:Px} {l:List Px} {tl:AM.Frame} (hx:l[i]? = some x) (hn:x.len = (n:Nat)) (h3:3≤n) (hn2:n≤258):∃ code,((Try.f45.body).bind (aF [1,1,1,1,1,1,1,1,1,0,1,0,0,1,0,0,1,0])) = some code∧Run X (evT X) 45 m code (fV o6 o7 o8 o10 o12 c l i ++ tl) E ⟨.normal,fV o6 o7 o8 o10 o12 c l i ++ [(15,.int .i64 ((lenOf n).1:Nat))],E⟩:=by
  refine ⟨_,rfl,?_⟩
  obtain ⟨h1,h2,h3'⟩:=tC hx
  have hL:=IG (H:=E) h3 hn2
  simp only [fV,pxR,hn] at h1 ⊢
  generalize (lenOf n).1 = u at *
  generalize l.map pxR = R at *
  generalize hN:R.length = N at *
  (refine ⟨0,?_⟩;simp (maxSteps:=2000000) -implicitDefEqProofs [-getElem?_pos,go_sem,eqV,ah,h1,h2,h3',hN,hL])
theorem U0 {m i c n:Nat} {l:List Px} (h3:3≤n) (hn2:n≤258):∃ code,((Try.f45.body).bind (aF [1,1,1,1,1,1,1,1,1,0,1,0,0,1,0,0,1,1,0])) = some code∧Run X (evT X) 45 m code (fV o6 o7 o8 o10 o12 c l i ++ [(15,.int .i64 ((lenOf n).1:Nat))]) E ⟨.normal,fV o6 o7 o8 o10 o12 c l i ++ [(15,.int .i64 ((lenOf n).1:Nat)),(16,.int .i64 ((lenOf n).2.1:Nat)),(17,.int .i64 ((lenOf n).2.2:Nat))],E⟩:=by
  refine ⟨_,rfl,?_⟩
  have hL:=Un (H:=E) h3 hn2
  simp only [fV]
  generalize lenOf n = R3 at *
  generalize l.map pxR = R at *
  (refine ⟨0,?_⟩;simp (maxSteps:=2000000) -implicitDefEqProofs [-getElem?_pos,go_sem,eqV,ah,hL,ak])
theorem XV {m i c n:Nat} {x:Px} {l:List Px} {tl:AM.Frame} (hx:l[i]? = some x) (hn:x.dist = (n:Nat)) (h3:1≤n) (hn2:n≤32768):∃ code,((Try.f45.body).bind (aF [1,1,1,1,1,1,1,1,1,0,1,0,0,1,0,0,1,1,1,1,1,0])) = some code∧Run X (evT X) 45 m code (fV o6 o7 o8 o10 o12 c l i ++ tl) E ⟨.normal,fV o6 o7 o8 o10 o12 c l i ++ [(15,.int .i64 ((bG n).1:Nat))],E⟩:=by
  refine ⟨_,rfl,?_⟩
  obtain ⟨h1,h2,h3'⟩:=tC hx
  have hL:=Eb (H:=E) h3 hn2
  simp only [fV,pxR,hn] at h1 ⊢
  generalize (bG n).1 = u at *
  generalize l.map pxR = R at *
  generalize hN:R.length = N at *
  (refine ⟨0,?_⟩;simp (maxSteps:=2000000) -implicitDefEqProofs [-getElem?_pos,go_sem,eqV,ah,h1,h2,h3',hN,hL])
theorem U1 {m i c n:Nat} {l:List Px} (h3:1≤n) (hn2:n≤32768):∃ code,((Try.f45.body).bind (aF [1,1,1,1,1,1,1,1,1,0,1,0,0,1,0,0,1,1,1,1,1,1,0])) = some code∧Run X (evT X) 45 m code (fV o6 o7 o8 o10 o12 c l i ++ [(15,.int .i64 ((bG n).1:Nat))]) E ⟨.normal,fV o6 o7 o8 o10 o12 c l i ++ [(15,.int .i64 ((bG n).1:Nat)),(16,.int .i64 ((bG n).2.1:Nat)),(17,.int .i64 ((bG n).2.2:Nat))],E⟩:=by
  refine ⟨_,rfl,?_⟩
  have hL:=Uo (H:=E) h3 hn2
  simp only [fV]
  generalize bG n = R3 at *
  generalize l.map pxR = R at *
  (refine ⟨0,?_⟩;simp (maxSteps:=2000000) -implicitDefEqProofs [-getElem?_pos,go_sem,eqV,ah,hL,ak])
theorem XW {m i v w c n:Nat} {x:Px} {l:List Px} (h:GxV E o6 o7 o8 o10 o12 oa s) (hl:s.k≤7000000) (hx:l[i]? = some x) (hn:x.len = (n:Nat)) (hn2:n≤100000) (hv:v≤n) (hw:w≤60):∃ E' oa',GxV E' o6 o7 o8 o10 o12 oa' (bI s (x.len - (v:Nat)) w)∧Kpw E E' o12 oa oa'∧∃ code,((Try.f45.body).bind (aF [1,1,1,1,1,1,1,1,1,0,1,0,0,1,0,0,1,1,1,1,0])) = some code∧Run X (evT X) 45 m code (fV o6 o7 o8 o10 o12 c l i ++ [(16,.int .i64 (v:Nat)),(17,.int .i64 (w:Nat))]) E ⟨.normal,fV o6 o7 o8 o10 o12 c l i,E'⟩:=by
  obtain ⟨E',oa',g1,g2,g3⟩:=vK (x:=x.len - (v:Nat)) (I:=(w:Nat)) (n:=w) rfl h.wr h.ok (by omega) hw
  refine ⟨E',oa',h.step g2 g3 (bV h.ok w).1,g3,_,rfl,?_⟩
  rw [hn] at g1
  obtain ⟨h1,h2,h3⟩:=tC hx
  have w1:IntKind.i64.wrap ((n:Int) - (v:Int)) = (n:Int) - (v:Int):=by rw [wrap_i64 (by omega) (by omega)]
  simp only [fV,pxR,hn] at h1 ⊢
  generalize l.map pxR = R at *
  generalize hN:R.length = N at *
  (refine ⟨0,?_⟩;simp (maxSteps:=2000000) -implicitDefEqProofs [-getElem?_pos,go_sem,eqV,ah,h1,h2,h3,hN,w1,g1])
theorem XY {m i v w c n:Nat} {x:Px} {l:List Px} (h:GxV E o6 o7 o8 o10 o12 oa s) (hl:s.k≤7000000) (hx:l[i]? = some x) (hn:x.dist = (n:Nat)) (hn2:n≤100000) (hv:v≤n) (hw:w≤60):∃ E' oa',GxV E' o6 o7 o8 o10 o12 oa' (bI s (x.dist - (v:Nat)) w)∧Kpw E E' o12 oa oa'∧∃ code,((Try.f45.body).bind (aF [1,1,1,1,1,1,1,1,1,0,1,0,0,1,0,0,1,1,1,1,1,1,1,1])) = some code∧Run X (evT X) 45 m code (fV o6 o7 o8 o10 o12 c l i ++ [(16,.int .i64 (v:Nat)),(17,.int .i64 (w:Nat))]) E ⟨.normal,fV o6 o7 o8 o10 o12 c l i,E'⟩:=by
  obtain ⟨E',oa',g1,g2,g3⟩:=vK (x:=x.dist - (v:Nat)) (I:=(w:Nat)) (n:=w) rfl h.wr h.ok (by omega) hw
  refine ⟨E',oa',h.step g2 g3 (bV h.ok w).1,g3,_,rfl,?_⟩
  rw [hn] at g1
  obtain ⟨h1,h2,h3⟩:=tC hx
  have w1:IntKind.i64.wrap ((n:Int) - (v:Int)) = (n:Int) - (v:Int):=by rw [wrap_i64 (by omega) (by omega)]
  simp only [fV,pxR,hn] at h1 ⊢
  generalize l.map pxR = R at *
  generalize hN:R.length = N at *
  (refine ⟨0,?_⟩;simp (maxSteps:=2000000) -implicitDefEqProofs [-getElem?_pos,go_sem,eqV,ah,h1,h2,h3,hN,w1,g1])
end
end Go.Proofs.Ytbodincpjijdiaa
namespace Go.Proofs.Ytbodincpjijdiaa
open Go.AM
section
variable {E:AM.Heap} {o6 o7 o8 o10 o12:Nat} {oa:Option Nat} {s:Ws}
theorem U2 {m i c:Nat} {x:Px} {l:List Px} (h:GxV E o6 o7 o8 o10 o12 oa s) (hl:s.k≤6000000) (hx:l[i]? = some x) (hll:l.length≤100000) (hm:jy x = true):∃ E' oa',GxV E' o6 o7 o8 o10 o12 oa' (pxW s x)∧∃ code,((Try.f45.body).bind (aF [1,1,1,1,1,1,1,1,1,0,1,0,0,1])) = some code∧Run X (evT X) 45 m code (fV o6 o7 o8 o10 o12 c l i ++ [(49,.bool true)]) E ⟨.normal,fV o6 o7 o8 o10 o12 c l (i + 1),E'⟩:=by
  have hi:=eY hx
  have w1:IntKind.i64.wrap ((i:Int) + 1) = ((i + 1:Nat):Int):=by rw [wrap_i64 (by omega) (by omega)];omega
  have FZ:=XO (m:=m) (E:=E) (o6:=o6) (o7:=o7) (o8:=o8) (o10:=o10) (o12:=o12) (c:=c) (tl:=[(49,.bool true)]) hx
  have FX:∀ E',∃ code,((Try.f45.body).bind (aF [1,1,1,1,1,1,1,1,1,0,1,0,0,1,1])) = some code∧Run X (evT X) 45 m code (fV o6 o7 o8 o10 o12 c l i) E' ⟨.normal,fV o6 o7 o8 o10 o12 c l (i + 1),E'⟩:=by
    intro E'
    refine ⟨_,rfl,?_⟩
    simp only [fV]
    generalize l.map pxR = R at *
    generalize i + 1 = i1 at *
    (refine ⟨0,?_⟩;simp (maxSteps:=2000000) -implicitDefEqProofs [-getElem?_pos,go_sem,eqV,ah,w1])
  unfold pxW
  by_cases h0:x.len = 0
  · rw [if_pos h0]
    rw [decide_eq_true h0] at FZ
    have hy:=x.byte.toNat_lt
    have ajK:=XP (m:=m) (E:=E) (o6:=o6) (o7:=o7) (o8:=o8) (o10:=o10) (o12:=o12) (c:=c) (tl:=[(57,.bool true)]) hx
    obtain ⟨E1,oa1,g1,g2,g3⟩:=XQ (m:=m) (i:=i) (c:=c) (l:=l) (v:=0) (w:=0) (tl:=[]) (u:=x.byte.toNat) h (by omega) (by omega)
    refine ⟨E1,oa1,g1,_,rfl,?_⟩
    apply Run.seq (fr':=fV o6 o7 o8 o10 o12 c l i) (H':=E1)
    · refine Run.eF ?_
      refine Run.bH ?_ (by simp)
      apply Run.seq (piece FZ _ rfl)
      refine Run.cond (d:=true) (by simp [fV,aC,au]) ?_
      apply Run.seq (piece ajK _ rfl)
      exact Run.seq (piece g3 _ rfl) ⟨0,rfl⟩
    · exact piece (FX E1) _ rfl
  · rw [if_neg h0]
    rw [decide_eq_false h0] at FZ
    obtain ⟨n,d,hn,hd,n3,n258,d1⟩:=yw hm h0
    have hd2:=BM hm h0
    have en:x.len.toNat = n:=by omega
    have ed:x.dist.toNat = d:=by omega
    rw [en,ed]
    obtain ⟨a1,a2,a3,a4,a5⟩:=nU n (by omega) n3
    obtain ⟨b1,b2,b3,b4⟩:=jL d1 (by omega)
    have f1:=qA (lenOf n).1 (by omega)
    have f2:=BN (bG d).1 (by omega)
    have ajL:=XU (m:=m) (E:=E) (o6:=o6) (o7:=o7) (o8:=o8) (o10:=o10) (o12:=o12) (c:=c) (tl:=[(57,.bool false)]) hx hn n3 n258
    have Ug:=U0 (m:=m) (E:=E) (o6:=o6) (o7:=o7) (o8:=o8) (o10:=o10) (o12:=o12) (i:=i) (c:=c) (l:=l) n3 n258
    obtain ⟨E1,oa1,g1,g2,g3⟩:=XR (m:=m) (i:=i) (u:=(lenOf n).1) (v:=(lenOf n).2.1) (w:=(lenOf n).2.2) (c:=c) (l:=l) (tl:=[]) h (by omega) (by omega)
    have k1:=(iq (cs:=lcL) (ls:=flL) (y:=(lenOf n).1) h.ok).2
    obtain ⟨E2,oa2,g4,g5,g6⟩:=XW (m:=m) (i:=i) (v:=(lenOf n).2.1) (w:=(lenOf n).2.2) (c:=c) (l:=l) g1 (by omega) hx hn (by omega) a3 (by omega)
    have k2:=(bV (x:=x.len - ((lenOf n).2.1:Nat)) g1.ok (lenOf n).2.2).2
    have aa6:=XV (m:=m) (E:=E2) (o6:=o6) (o7:=o7) (o8:=o8) (o10:=o10) (o12:=o12) (c:=c) (tl:=[]) hx hd d1 (by omega)
    have TI:=U1 (m:=m) (E:=E2) (o6:=o6) (o7:=o7) (o8:=o8) (o10:=o10) (o12:=o12) (i:=i) (c:=c) (l:=l) (n:=d) d1 (by omega)
    obtain ⟨E3,oa3,g7,g8,g9⟩:=XT (m:=m) (i:=i) (u:=(bG d).1) (v:=(bG d).2.1) (w:=(bG d).2.2) (c:=c) (l:=l) (tl:=[]) g4 (by omega) (by omega)
    have k3:=(iq (cs:=dcL) (ls:=flD) (y:=(bG d).1) g4.ok).2
    obtain ⟨E4,oa4,g10,g11,g12⟩:=XY (m:=m) (i:=i) (v:=(bG d).2.1) (w:=(bG d).2.2) (c:=c) (l:=l) g7 (by omega) hx hd (by omega) b2 (by omega)
    rw [List.append_nil] at aa6
    refine ⟨E4,oa4,g10,_,rfl,?_⟩
    apply Run.seq (fr':=fV o6 o7 o8 o10 o12 c l i) (H':=E4)
    · refine Run.block ?_ (by simp)
      apply Run.seq (fr':=fV o6 o7 o8 o10 o12 c l i ++ [(57,.bool false)]) (H':=E)
      · apply Run.seq (piece FZ _ rfl)
        exact Run.cond (d:=false) (by simp [fV,aC,au]) ⟨0,rfl⟩
      apply Run.seq (piece ajL _ rfl)
      apply Run.seq (piece Ug _ rfl)
      apply Run.seq (piece g3 _ rfl)
      apply Run.seq (piece g6 _ rfl)
      apply Run.seq (piece aa6 _ rfl)
      apply Run.seq (piece TI _ rfl)
      apply Run.seq (piece g9 _ rfl)
      exact piece g12 _ rfl
    · exact piece (FX E4) _ rfl
theorem U3 {m c:Nat} {l:List Px} (h:GxV E o6 o7 o8 o10 o12 oa s) (hs:s.k≤100) (hll:l.length≤2000) (hm:∀ x ∈ l,jy x = true):∃ code,((Try.f45.body).bind (aF [1,1,1,1,1,1,1,1,1,0,1])) = some code∧aj (Goes fun fr E'=>∃ oa',fr = fV o6 o7 o8 o10 o12 c l l.length ++ [(49,.bool false)]∧GxV E' o6 o7 o8 o10 o12 oa' (l.foldl pxW s)) X (evT X) 45 m code (fV o6 o7 o8 o10 o12 c l 0) E:=by
  refine ⟨_,rfl,?_⟩
  have hlm:(l.map pxR).length = l.length:=by simp
  apply aj.block
  refine aj.kJ (I:=fun k fr E'=>∃ i oa' s',i≤l.length∧k = l.length - i∧fr = fV o6 o7 o8 o10 o12 c l i∧GxV E' o6 o7 o8 o10 o12 oa' s'∧s'.k≤100 + 40 * i∧(l.drop i).foldl pxW s' = l.foldl pxW s) ?_ (k:=l.length) ⟨0,oa,s,by omega,rfl,rfl,h,by omega,rfl⟩
  rintro k fr E' ⟨i,oa',s',hi,rfl,rfl,hF,hk,hf⟩
  by_cases hin:i = l.length
  · rw [List.drop_of_length_le (by omega),List.foldl_nil] at hf
    refine aj.of (o:=⟨.exit 0,fV o6 o7 o8 o10 o12 c l i ++ [(49,.bool false)],E'⟩) ?_ (.inr ⟨by simp,rfl,oa',by rw [hin],by rw [← hf];exact hF⟩)
    have hnI:¬ (i:Int) < (l.length:Int):=by omega
    have hnN:¬ i < l.length:=by omega
    refine ⟨0,?_⟩
    simp only [fV]
    generalize l.map pxR = R at *
    generalize l.length = N at *
    simp (maxSteps:=2000000) -implicitDefEqProofs [-getElem?_pos,go_sem,eqV,ah,hlm,hnI,hnN]
  · have hlt:i < l.length:=by omega
    have iT:(i:Int) < (l.length:Int):=by omega
    obtain ⟨x,hx⟩:∃ x,l[i]? = some x:=⟨_,List.getElem?_eq_getElem hlt⟩
    have hmx:=hm x (List.mem_of_getElem? hx)
    have hdrop:l.drop i = x :: l.drop (i + 1):=by
      rw [List.drop_eq_getElem_cons hlt]
      rw [List.getElem?_eq_getElem hlt] at hx
      rw [Option.some.inj hx]
    rw [hdrop,List.foldl_cons] at hf
    obtain ⟨E2,oa2,g1,g2⟩:=U2 (m:=m) (c:=c) hF (by omega) hx (by omega) hmx
    have hk2:=(FW hF.ok hmx).2
    refine aj.of (o:=⟨.normal,fV o6 o7 o8 o10 o12 c l (i + 1),E2⟩) ?_ (.inl ⟨rfl,l.length - (i + 1),by omega,i + 1,oa2,_,by omega,rfl,rfl,g1,by omega,hf⟩)
    apply Run.seq (fr':=fV o6 o7 o8 o10 o12 c l i ++ [(49,.bool true)]) (H':=E')
    · apply Run.seq (fr':=fV o6 o7 o8 o10 o12 c l i ++ [(49,.bool true)]) (H':=E')
      · simp only [fV]
        generalize l.map pxR = R at *
        generalize l.length = N at *
        (refine ⟨0,?_⟩;simp (maxSteps:=2000000) -implicitDefEqProofs [-getElem?_pos,go_sem,eqV,ah,hlm,iT,hlt])
      · exact Run.cond (d:=true) (by simp [fV,aC,au]) ⟨0,rfl⟩
    exact piece g2 _ rfl
theorem XZ {m c i:Nat} {l:List Px} {tl:AM.Frame} (h:GxV E o6 o7 o8 o10 o12 oa s) (hl:s.k≤7000000):∃ E' oa',GxV E' o6 o7 o8 o10 o12 oa' (iY s lcL flL 256)∧∃ code,((Try.f45.body).bind (aF [1,1,1,1,1,1,1,1,1,1,0])) = some code∧Run X (evT X) 45 m code (fV o6 o7 o8 o10 o12 c l i ++ tl) E ⟨.normal,[(12,.ptr o12 0 0 0)],E'⟩:=by
  obtain ⟨n0,n9⟩:=qA 256 (by omega)
  have hc:=iZ (l:=lcL) (y:=256) (by unfold lcL;rw [jM,jc];omega)
  have hf:=iZ (l:=flL) (y:=256) (by rw [jc];omega)
  obtain ⟨E',oa',g1,g2,g3⟩:=yF (x:=lcL.getD 256 0) (I:=flL.getD 256 0) (n:=(flL.getD 256 0).toNat) (by omega) h.wr h.ok (by omega) (by omega)
  have hs:=iq (cs:=lcL) (ls:=flL) (y:=256) h.ok
  refine ⟨E',oa',h.step g2 g3 hs.1,_,rfl,?_⟩
  have q6:=h.r6;have q8:=h.r8
  simp only [flO,dD] at q6 q8
  simp only [fV]
  generalize lcL.getD 256 0 = v1 at *
  generalize flL.getD 256 0 = v2 at *
  generalize l.map pxR = R at *
  generalize lcL = LC at *
  generalize flL = LL at *
  (refine ⟨0,?_⟩;simp (maxSteps:=2000000) -implicitDefEqProofs [-getElem?_pos,go_sem,eqV,ah,retag,q6,q8,hc,hf,g1])
theorem X0 {m:Nat} (h:GxV E o6 o7 o8 o10 o12 oa s) (hne:s.o ≠ []):∃ a g ob,E[a]? = some (some ob)∧Rw (.pb s.o) g ob∧∃ code,((Try.f45.body).bind (aF [1,1,1,1,1,1,1,1,1,1,1,0])) = some code∧Run X (evT X) 45 m code ([(12,.ptr o12 0 0 0)]) E ⟨.normal,[(2,.sl a 0 s.o.length g),(3,.int .i64 0)],E⟩:=by
  obtain ⟨⟨vo,τ,a1,h0,ho⟩,hn⟩:=id h.wr
  cases hq:oa with
  | none=>rw [hq] at ho;exact absurd ho.1 hne
  | some a =>
    rw [hq] at ho
    obtain ⟨g,τ2,ob,hτ2,rfl,h3,h4⟩:=ho
    have ht:τ2 = 0:=hτ2.elim id id
    refine ⟨a,g,ob,h3,⟨h4.p,h4.g,h4.row,h4.ids,by rw [h4.tg,ht]⟩,_,rfl,?_⟩
    simp only [fE] at h0
    generalize s.o.length = N at *
    (refine ⟨0,?_⟩;simp (maxSteps:=2000000) -implicitDefEqProofs [-getElem?_pos,go_sem,eqV,ah,h0,ak])
end
end Go.Proofs.Ytbodincpjijdiaa
namespace Go.Proofs.Ytbodincpjijdiaa
open Go.AM
def MJ:Row1:=⟨62,[],.tup [.sl 0 0 288 0,.sl 1 0 32 0],[dD 288 flL,dD 32 flD]⟩
theorem PE:kH X (MJ :: []):=kH.cons (CO kH.nil) kH.nil (n:=400) (by kernel_rfl)
theorem aa7 (H:AM.Heap):evT X 62 [] H = some (.tup [.sl H.length 0 288 0,.sl (H.length + 1) 0 32 0],H ++ [dD 288 flL,dD 32 flD]):=by
 have:=dA (Ev1.frame (PE MJ (List.mem_singleton.2 rfl)).1 rfl H)
 simpa [MJ,dM,kG,ren,aU,uF,dD,bZ,Nat.add_comm] using this
theorem JK {H:AM.Heap} {o k:Nat} {l:List Int} (h:H[o]? = some (dD k l)):gq H (.sl o 0 l.length 0) = some (.pi .i64 l):=by
 simp [gq,live,h,dD,iw]
theorem ajM:qB X 100 [] = some (.agg (.pc [.ro 0 .pn 0,.int .i64 0])):=by kernel_rfl
section
variable {c:Nat} {l:List Px}
theorem JL {m:Nat} (hl:l.length≤2000):∃ code,Try.f45.body = some code∧aj (jV (fiX l)) X (evT X) 45 m code [(0,.ro c (.pr 3 (l.map pxR)) 1)] []:=by
 refine ⟨_,rfl,?_⟩
 obtain ⟨obE,hwE,hEx⟩:=MI (H:=[some (⟨.pb [],0,none,0,true,false,0⟩:AM.Obj)]) (a:=.ro c (.pr 3 (l.map pxR)) 1) (l:=l) rfl hl
 have hmay:=Bo (l:=l) (o:=[])
 unfold fiX iF
 generalize hex:iy l [] = r at *
 obtain ⟨o,e⟩:=r
 simp only at hEx hmay ⊢
 apply aj.seq (fr':=[(0,.ro c (.pr 3 (l.map pxR)) 1)]) (H':=[some (⟨.pb [],0,none,0,true,false,0⟩:AM.Obj)])
 ·generalize l.map pxR = R at *
  (refine ⟨0,?_⟩;simp (maxSteps:=2000000) -implicitDefEqProofs [-getElem?_pos,go_sem,eqV,ah,ak,rowOf,oP])
 apply aj.seq (fr':=[(0,.ro c (.pr 3 (l.map pxR)) 1),(5,.int .i64 e)]) (H':=[some (⟨.pb [],0,none,0,true,false,0⟩:AM.Obj),some obE])
 ·simp only [List.length_singleton,List.singleton_append] at hEx
  generalize l.map pxR = R at *
  generalize o.length = K at *
  (refine ⟨0,?_⟩;simp (maxSteps:=2000000) -implicitDefEqProofs [-getElem?_pos,go_sem,eqV,ah,hEx,ak])
 apply aj.assoc
 by_cases he:¬ e = 0
 ·have heb:(e != 0) = true:=by simpa using he
  rw [if_pos he]
  refine aj.of (o:=⟨.ret,[(2,.sl 2 0 0 0),(3,.int .i64 e)],[some (⟨.pb [],0,none,0,true,false,0⟩:AM.Obj),some obE,some (⟨.pb [],0,none,0,true,false,0⟩:AM.Obj)]⟩) ?_ ⟨rfl,2,0,_,rfl,rfl,rfl,⟨rfl,rfl,rfl,rfl,rfl⟩⟩
  apply Run.seq (fr':=[(0,.ro c (.pr 3 (l.map pxR)) 1),(5,.int .i64 e),(24,.bool true)]) (H':=[some (⟨.pb [],0,none,0,true,false,0⟩:AM.Obj),some obE])
  ·generalize l.map pxR = R at *
   (refine ⟨0,?_⟩;simp (maxSteps:=2000000) -implicitDefEqProofs [-getElem?_pos,go_sem,eqV,ah,he,heb])
  refine Run.bH ?_ (by simp)
  refine Run.cond (d:=true) (by simp [aC,au]) ?_
  apply Run.seq (fr':=[(2,.sl 2 0 0 0),(3,.int .i64 e)]) (H':=[some (⟨.pb [],0,none,0,true,false,0⟩:AM.Obj),some obE,some (⟨.pb [],0,none,0,true,false,0⟩:AM.Obj)])
  ·generalize l.map pxR = R at *
   (refine ⟨0,?_⟩;simp (maxSteps:=2000000) -implicitDefEqProofs [-getElem?_pos,go_sem,eqV,ah,ak,rowOf,oP])
  ·exact ⟨0,rfl⟩
 have he:e = 0:=Classical.not_not.1 he
 subst he
 rw [if_neg (by simp)]
 simp only
 have hm:=hmay rfl
 apply aj.seq (fr':=[(0,.ro c (.pr 3 (l.map pxR)) 1),(5,.int .i64 0),(24,.bool false)]) (H':=[some (⟨.pb [],0,none,0,true,false,0⟩:AM.Obj),some obE])
 ·generalize l.map pxR = R at *
  (refine ⟨0,?_⟩;simp (maxSteps:=2000000) -implicitDefEqProofs [-getElem?_pos,go_sem,eqV,ah])
 apply aj.seq (fr':=[(0,.ro c (.pr 3 (l.map pxR)) 1),(5,.int .i64 0),(24,.bool false)]) (H':=[some (⟨.pb [],0,none,0,true,false,0⟩:AM.Obj),some obE])
 ·exact Run.cond (d:=false) (by simp [aC,au]) ⟨0,rfl⟩
 have hF:=aa7 [some (⟨.pb [],0,none,0,true,false,0⟩:AM.Obj),some obE]
 have hC1:=IE (H:=[some (⟨.pb [],0,none,0,true,false,0⟩:AM.Obj),some obE,dD 288 flL,dD 32 flD]) (a:=.sl 2 0 288 0) (l:=flL) (by have:=JK (H:=[some (⟨.pb [],0,none,0,true,false,0⟩:AM.Obj),some obE,dD 288 flL,dD 32 flD]) (o:=2) (l:=flL) rfl;rwa [jc] at this) zD.1
 have hC2:=IE (H:=[some (⟨.pb [],0,none,0,true,false,0⟩:AM.Obj),some obE,dD 288 flL,dD 32 flD,dD 288 lcL]) (a:=.sl 3 0 32 0) (l:=flD) (by have:=JK (H:=[some (⟨.pb [],0,none,0,true,false,0⟩:AM.Obj),some obE,dD 288 flL,dD 32 flD,dD 288 lcL]) (o:=3) (l:=flD) rfl;rwa [pY] at this) zD.2.1
 have eL:iI flL = lcL:=by rw [KG,Vz]
 have eD:iI flD = dcL:=by rw [KH,VA]
 rw [jc,eL] at hC1
 rw [pY,eD] at hC2
 simp only [List.length_cons,List.length_nil,List.cons_append,List.nil_append] at hF hC1 hC2
 change evT X _ _ _ = some (_,[_,_,_,_,dD 288 lcL]) at hC1
 change evT X _ _ _ = some (_,[_,_,_,_,_,dD 32 dcL]) at hC2
 have hV:GxV [some (⟨.pb [],0,none,0,true,false,0⟩:AM.Obj),some obE,dD 288 flL,dD 32 flD,dD 288 lcL,dD 32 dcL,some (fE ⟨0,[]⟩ (.ro 0 .pn 0) 0)] 2 3 4 5 6 none ⟨0,[]⟩:=⟨rfl,rfl,rfl,rfl,⟨⟨_,0,.inl rfl,rfl,rfl,0,.inl rfl,rfl⟩,fun a h=>by cases h⟩,by omega,fun a h=>(by cases h),rfl⟩
 generalize dD 288 lcL = r8 at *
 generalize dD 32 dcL = r10 at *
 generalize dD 288 flL = r6 at *
 generalize dD 32 flD = r7 at *
 generalize some (⟨.pb [],0,none,0,true,false,0⟩:AM.Obj) = r0 at *
 apply aj.seq (fr':=[(0,.ro c (.pr 3 (l.map pxR)) 1),(6,.sl 2 0 288 0),(7,.sl 3 0 32 0)]) (H':=[r0,some obE,r6,r7])
 ·generalize l.map pxR = R at *
  (refine ⟨0,?_⟩;simp (maxSteps:=2000000) -implicitDefEqProofs [-getElem?_pos,go_sem,eqV,ah,hF,ak])
 apply aj.seq (fr':=[(0,.ro c (.pr 3 (l.map pxR)) 1),(6,.sl 2 0 288 0),(7,.sl 3 0 32 0),(8,.sl 4 0 288 0)]) (H':=[r0,some obE,r6,r7,r8])
 ·generalize l.map pxR = R at *
  (refine ⟨0,?_⟩;simp (maxSteps:=2000000) -implicitDefEqProofs [-getElem?_pos,go_sem,eqV,ah,hC1,ak])
 apply aj.seq (fr':=[(0,.ro c (.pr 3 (l.map pxR)) 1),(6,.sl 2 0 288 0),(7,.sl 3 0 32 0),(8,.sl 4 0 288 0),(10,.sl 5 0 32 0)]) (H':=[r0,some obE,r6,r7,r8,r10])
 ·generalize l.map pxR = R at *
  (refine ⟨0,?_⟩;simp (maxSteps:=2000000) -implicitDefEqProofs [-getElem?_pos,go_sem,eqV,ah,hC2,ak])
 apply aj.seq (fr':=[(0,.ro c (.pr 3 (l.map pxR)) 1),(6,.sl 2 0 288 0),(7,.sl 3 0 32 0),(8,.sl 4 0 288 0),(10,.sl 5 0 32 0),(12,.ptr 6 0 0 0)]) (H':=[r0,some obE,r6,r7,r8,r10,some (fE ⟨0,[]⟩ (.ro 0 .pn 0) 0)])
 ·simp only [fE]
  generalize l.map pxR = R at *
  (refine ⟨0,?_⟩;simp (maxSteps:=2000000) -implicitDefEqProofs [-getElem?_pos,go_sem,eqV,ah,ajM,ak])
 clear hC1 hC2 hF hEx
 generalize [r0,some obE,r6,r7,r8,r10,some (fE ⟨0,[]⟩ (.ro 0 .pn 0) 0)] = E0 at *
 obtain ⟨E1,oa1,g1,g2,g3⟩:=vK (x:=1) (I:=1) (n:=1) rfl hV.wr hV.ok (by simp) (by omega)
 have hV1:=hV.step g2 g3 (bV hV.ok 1).1
 apply aj.seq (fr':=[(0,.ro c (.pr 3 (l.map pxR)) 1),(6,.sl 2 0 288 0),(7,.sl 3 0 32 0),(8,.sl 4 0 288 0),(10,.sl 5 0 32 0),(12,.ptr 6 0 0 0)]) (H':=E1)
 ·generalize l.map pxR = R at *
  (refine ⟨0,?_⟩;simp (maxSteps:=2000000) -implicitDefEqProofs [-getElem?_pos,go_sem,eqV,ah,g1])
 have k1:=(bV (x:=1) hV.ok 1).2
 obtain ⟨E2,oa2,g4,g5,g6⟩:=vK (x:=1) (I:=2) (n:=2) rfl hV1.wr hV1.ok (by rw [k1];simp) (by omega)
 have hV2:=hV1.step g5 g6 (bV hV1.ok 2).1
 have k2:=(bV (x:=1) hV1.ok 2).2
 apply aj.seq (fr':=[(0,.ro c (.pr 3 (l.map pxR)) 1),(6,.sl 2 0 288 0),(7,.sl 3 0 32 0),(8,.sl 4 0 288 0),(10,.sl 5 0 32 0),(12,.ptr 6 0 0 0)]) (H':=E2)
 ·generalize l.map pxR = R at *
  (refine ⟨0,?_⟩;simp (maxSteps:=2000000) -implicitDefEqProofs [-getElem?_pos,go_sem,eqV,ah,g4])
 apply aj.assoc
 apply aj.seq (fr':=fV 2 3 4 5 6 c l 0) (H':=E2)
 ·simp only [fV]
  generalize l.map pxR = R at *
  (refine ⟨0,?_⟩;simp (maxSteps:=2000000) -implicitDefEqProofs [-getElem?_pos,go_sem,eqV,ah])
 have hk3:(bI (bI ⟨0,[]⟩ 1 1) 1 2).k≤100:=by rw [k2,k1];simp
 apply aj.andThen (piece (U3 (m:=m) (c:=c) hV2 hk3 hl hm) _ rfl)
 rintro fr E3 ⟨oa3,rfl,hV3⟩
 have hk4:=(yx l _ hV2.ok hm).2
 obtain ⟨E4,oa4,hV4,ajN⟩:=XZ (m:=m) (c:=c) (i:=l.length) (l:=l) (tl:=[(49,.bool false)]) hV3 (by omega)
 apply aj.seq (piece ajN _ rfl)
 have hne:=Nq hm
 unfold BX at hne ⊢
 obtain ⟨a,g,ob,q1,q2,ajO⟩:=X0 (m:=m) hV4 hne
 generalize (iY (l.foldl pxW (bI (bI ⟨0,[]⟩ 1 1) 1 2)) lcL flL 256).o = B at *
 apply aj.seq (piece ajO _ rfl)
 exact aj.of (o:=⟨.ret,[(2,.sl a 0 B.length g),(3,.int .i64 0)],E4⟩) ⟨0,rfl⟩ ⟨rfl,a,g,ob,rfl,rfl,q1,q2⟩
theorem O6 {H:AM.Heap} {a:AV} (ha:gq H a = some (.pr 3 (l.map pxR))) (hl:l.length≤2000):∃ ob,Rw (.pb (iF l).1) 0 ob∧evT X 45 [a] H = some (.tup [.sl H.length 0 (iF l).1.length 0,.int .i64 (iF l).2],H ++ [some ob]):=by
 obtain ⟨c,x,hx⟩:=dS (C:=X) (f:=45) (i:=0) rfl ha (bU 1)
 obtain ⟨code,hc,⟨out,⟨ho,a2,g,ob,h2,h3,h4,hw⟩,hrun⟩⟩:=JL (m:=0) (c:=c) (l:=l) hl
 obtain ⟨ob',q1,q2⟩:=Ev1.wZ (C:=X) (H:=H) (bn X) (n:=(iF l).1.length) (l:=(iF l).1) (rest:=[.int .i64 (iF l).2]) Try.func45 hc hx rfl (by simp [bW]) rfl rfl rfl (by
  rw [Y6]
  refine ⟨out,⟨ho,a2,g,ob,?_,h4,hw⟩,hrun⟩
  show aQ X out.fr out.H [.tmp 2,.tmp 3] = _
  simp [aQ,h2,h3])
 exact ⟨ob',q1,dA (by simpa [aO,fU] using q2)⟩
end
end Go.Proofs.Ytbodincpjijdiaa
namespace Go.Proofs.Ytbodincpjijdiaa
open Go.AM
section
variable {c:Nat} {b:List UInt8}
def Af (c:Nat) (b:List UInt8) (k d n:Nat):AM.Frame:=[(0,.ro c (.pb b) 1),(1,.int .i64 (k:Nat)),(2,.int .i64 (d:Nat)),(7,.int .i64 (n:Nat))]
theorem aa8 {m k d n:Nat} {E:AM.Heap} (hd:1≤d) (hdk:d≤k) (hn:n≤258) (hb:b.length≤100000) (hk:k≤100000):∃ code,((Try.f70.body).bind (aF [1,1,0,0,0,0,0])) = some code∧Run X (evT X) 70 m code (Af c b k d n) E ⟨.normal,Af c b k d n ++ [(34,.bool (decide (n < 258∧k + n < b.length∧b[k - d + n]? = b[k + n]?)))],E⟩:=by
  refine ⟨_,rfl,?_⟩
  simp only [Af]
  by_cases h1:n < 258
  · have h1I:(n:Int) < 258:=by omega
    have w1:IntKind.i64.wrap ((k:Int) + (n:Int)) = ((k + n:Nat):Int):=by rw [wrap_i64 (by omega) (by omega)];omega
    have w2:IntKind.i64.wrap (((k + n:Nat):Int) - (d:Int)) = ((k - d + n:Nat):Int):=by rw [wrap_i64 (by omega) (by omega)];omega
    by_cases h2:k + n < b.length
    · have h2I:((k + n:Nat):Int) < (b.length:Int):=by omega
      have h3I:((k - d + n:Nat):Int) < (b.length:Int):=by omega
      have h3:k - d + n < b.length:=by omega
      obtain ⟨x,hx⟩:∃ x,b[k - d + n]? = some x:=⟨_,List.getElem?_eq_getElem h3⟩
      obtain ⟨y,hy⟩:∃ y,b[k + n]? = some y:=⟨_,List.getElem?_eq_getElem h2⟩
      rw [hx,hy]
      by_cases hxy:x = y
      · subst hxy
        rw [show decide (n < 258∧k + n < b.length∧some x = some x) = true by simp [h1,h2]]
        generalize k - d + n = n2 at *
        generalize k + n = kn at *
        (refine ⟨0,?_⟩;simp (maxSteps:=2000000) -implicitDefEqProofs [-getElem?_pos,go_sem,eqV,ah,h1,h1I,w1,w2,h2,h2I,h3,h3I,hx,hy])
      · rw [show decide (n < 258∧k + n < b.length∧some x = some y) = false by simp [hxy]]
        have hxI:¬ (y.toNat:Int) = (x.toNat:Int):=fun h=>hxy (UInt8.toNat_inj.1 (by omega))
        have hxN:¬ y.toNat = x.toNat:=fun h=>hxy (UInt8.toNat_inj.1 h.symm)
        generalize k - d + n = n2 at *
        generalize k + n = kn at *
        (refine ⟨0,?_⟩;simp (maxSteps:=2000000) -implicitDefEqProofs [-getElem?_pos,go_sem,eqV,ah,h1,h1I,w1,w2,h2,h2I,h3,h3I,hx,hy,hxI,hxN])
    · have h2I:¬ ((k + n:Nat):Int) < (b.length:Int):=by omega
      rw [show decide (n < 258∧k + n < b.length∧b[k - d + n]? = b[k + n]?) = false by simp [h2]]
      generalize k - d + n = n2 at *
      generalize k + n = kn at *
      (refine ⟨0,?_⟩;simp (maxSteps:=2000000) -implicitDefEqProofs [-getElem?_pos,go_sem,eqV,ah,h1,h1I,w1,w2,h2,h2I])
  · have h1I:¬ (n:Int) < 258:=by omega
    rw [show decide (n < 258∧k + n < b.length∧b[k - d + n]? = b[k + n]?) = false by simp [h1]]
    (refine ⟨0,?_⟩;simp (maxSteps:=2000000) -implicitDefEqProofs [-getElem?_pos,go_sem,eqV,ah,h1,h1I])
theorem Ht {m k d:Nat} {E:AM.Heap} (hd:1≤d) (hdk:d≤k) (hb:b.length≤100000) (hk:k≤100000):∃ code,Try.f70.body = some code ∧
    aj (fun o=>o = ⟨.ret,[(6,.int .i64 (bM b (k - d) k 258 0:Nat))],E⟩) X (evT X) 70 m code [(0,.ro c (.pb b) 1),(1,.int .i64 (k:Nat)),(2,.int .i64 (d:Nat))] E:=by
  refine ⟨_,rfl,?_⟩
  apply aj.seq (fr':=[(0,.ro c (.pb b) 1),(1,.int .i64 (k:Nat)),(2,.int .i64 (d:Nat))]) (H':=E)
  · (refine ⟨0,?_⟩;simp (maxSteps:=2000000) -implicitDefEqProofs [-getElem?_pos,go_sem,eqV,ah])
  apply aj.seq (fr':=Af c b k d 0) (H':=E)
  · simp only [Af]
    (refine ⟨0,?_⟩;simp (maxSteps:=2000000) -implicitDefEqProofs [-getElem?_pos,go_sem,eqV,ah,ak])
  apply aj.andThen (P:=fun fr H=>fr = Af c b k d (bM b (k - d) k 258 0) ++ [(34,.bool false)]∧H = E)
  · apply aj.block
    refine aj.loop (σ:=Nat) (fun n=>n≤258∧bM b (k - d) k (258 - n) n = bM b (k - d) k 258 0) (fun n=>Af c b k d n) (fun _=>E) (fun n=>258 - n) ?_ 0 ⟨by omega,rfl⟩
    rintro n ⟨hn,he⟩
    have h2:=aa8 (m:=m) (c:=c) (E:=E) hd hdk hn hb hk
    by_cases hc:n < 258∧k + n < b.length∧b[k - d + n]? = b[k + n]?
    · left
      refine ⟨n + 1,⟨by omega,by rw [← DC hc];exact he⟩,?_,by omega⟩
      rw [decide_eq_true hc] at h2
      apply Run.seq (fr':=Af c b k d n ++ [(34,.bool true)]) (H':=E)
      · apply Run.seq (piece h2 _ rfl)
        refine Run.cond (d:=true) (by simp [Af,aC,au]) ⟨0,rfl⟩
      · apply Run.block
        · have w1:IntKind.i64.wrap ((n:Int) + 1) = ((n + 1:Nat):Int):=by rw [wrap_i64 (by omega) (by omega)];omega
          simp only [Af]
          (refine ⟨0,?_⟩;simp (maxSteps:=2000000) -implicitDefEqProofs [-getElem?_pos,go_sem,eqV,ah,w1,ak])
        · simp
    · right
      rw [decide_eq_false hc] at h2
      refine ⟨⟨.exit 0,Af c b k d n ++ [(34,.bool false)],E⟩,⟨rfl,by rw [← he,FB hc],rfl⟩,by simp,?_⟩
      refine Run.bH ?_ (by simp)
      apply Run.seq (piece h2 _ rfl)
      refine Run.cond (d:=false) (by simp [Af,aC,au]) ⟨0,rfl⟩
  rintro fr H ⟨rfl,rfl⟩
  generalize bM b (k - d) k 258 0 = n at *
  refine aj.of (o:=⟨.ret,[(6,.int .i64 (n:Nat))],H⟩) ?_ rfl
  refine ⟨0,?_⟩
  simp only [Af]
  simp (maxSteps:=2000000) -implicitDefEqProofs [-getElem?_pos,go_sem,eqV,ah,ak]
theorem MK {H:AM.Heap} {a:AV} {k d:Nat} (ha:gq H a = some (.pb b)) (hd:1≤d) (hdk:d≤k) (hb:b.length≤100000) (hk:k≤100000):evT X 70 [a,.int .i64 (k:Nat),.int .i64 (d:Nat)] H = some (.int .i64 (bM b (k - d) k 258 0:Nat),H):=by
  have h3:=dL (C:=X) (f:=70) (i:=2) (a:=.int .i64 (d:Nat)) (H:=H) rfl rfl (bU 3)
  have h2:=dL (C:=X) (f:=70) (i:=1) (a:=.int .i64 (k:Nat)) (H:=H) rfl rfl h3
  obtain ⟨c,x,hx⟩:=dS (C:=X) (f:=70) (i:=0) rfl ha h2
  obtain ⟨code,hc,o,rfl,hr⟩:=Ht (m:=0) (c:=c) (b:=b) (E:=[]) hd hdk hb hk
  refine dA (Ev1.nV (l:=[.int .i64 (bM b (k - d) k 258 0:Nat)]) (bn X) Try.func70 hc hx rfl (by simp [bW]) rfl rfl rfl ?_)
  rw [Zk]
  exact ⟨_,⟨rfl,rfl⟩,hr⟩
def jZ (b:List UInt8) (p:Nat):Nat→Nat→Nat × Nat→Nat × Nat
  | 0,_,s=>s
  | f + 1,k,s=>if k≤p∧k≤32768∧s.1 < 258 then jZ b p f (k + 1) (if s.1 < bM b (p - k) p 258 0 then (bM b (p - k) p 258 0,k) else s) else s
def sF (b:List UInt8) (p:Nat):Pc:=if 3≤(jZ b p p 1 (0,0)).1 then ⟨(jZ b p p 1 (0,0)).1,(jZ b p p 1 (0,0)).2,0⟩ else ⟨0,0,b.getD p 0⟩
def sG (b:List UInt8):Nat→Nat→List Pc
  | 0,_=>[]
  | f + 1,p=>if p < b.length then sF b p :: sG b f (p + max 1 (sF b p).len) else []
def uf (c:Nat) (b:List UInt8) (v:AV) (p n d k:Nat):AM.Frame:=[(0,.ro c (.pb b) 1),(3,v),(4,.int .i64 (p:Nat)),(5,.int .i64 (n:Nat)),(6,.int .i64 (d:Nat)),(7,.int .i64 (k:Nat))]
theorem aa9 {m p n d k:Nat} {v:AV} {E:AM.Heap}:∃ code,((Try.f46.body).bind (aF [1,1,0,1,0,0,1,0,1,0,1,0,0,0,0])) = some code∧Run X (evT X) 46 m code (uf c b v p n d k) E ⟨.normal,uf c b v p n d k ++ [(23,.bool (decide (k≤p∧k≤32768∧n < 258)))],E⟩:=by
  refine ⟨_,rfl,?_⟩
  simp only [uf]
  by_cases h1:k≤p
  · have h1I:(k:Int)≤(p:Int):=by omega
    by_cases h2:k≤32768
    · have h2I:(k:Int)≤32768:=by omega
      by_cases h3:n < 258
      · have h3I:(n:Int) < 258:=by omega
        rw [decide_eq_true ⟨h1,h2,h3⟩]
        (refine ⟨0,?_⟩;simp (maxSteps:=2000000) -implicitDefEqProofs [-getElem?_pos,go_sem,eqV,ah,h1,h1I,h2,h2I,h3,h3I])
      · have h3I:¬ (n:Int) < 258:=by omega
        rw [decide_eq_false (by omega)]
        (refine ⟨0,?_⟩;simp (maxSteps:=2000000) -implicitDefEqProofs [-getElem?_pos,go_sem,eqV,ah,h1,h1I,h2,h2I,h3,h3I])
    · have h2I:¬ (k:Int)≤32768:=by omega
      rw [decide_eq_false (by omega)]
      (refine ⟨0,?_⟩;simp (maxSteps:=2000000) -implicitDefEqProofs [-getElem?_pos,go_sem,eqV,ah,h1,h1I,h2,h2I])
  · have h1I:¬ (k:Int)≤(p:Int):=by omega
    rw [decide_eq_false (by omega)]
    (refine ⟨0,?_⟩;simp (maxSteps:=2000000) -implicitDefEqProofs [-getElem?_pos,go_sem,eqV,ah,h1,h1I])
theorem abb {m p n d k:Nat} {v:AV} {E:AM.Heap} (hk1:1≤k) (hk:k≤p) (hb:b.length≤1400) (hp:p≤1400) (hn:n≤258):∃ code,((Try.f46.body).bind (aF [1,1,0,1,0,0,1,0,1,0,1,0,0,1])) = some code∧Run X (evT X) 46 m code (uf c b v p n d k ++ [(23,.bool true)]) E ⟨.normal,uf c b v p (if n < bM b (p - k) p 258 0 then (bM b (p - k) p 258 0,k) else (n,d)).1 (if n < bM b (p - k) p 258 0 then (bM b (p - k) p 258 0,k) else (n,d)).2 (k + 1),E⟩:=by
  refine ⟨_,rfl,?_⟩
  have hL:=MK (H:=E) (a:=.ro c (.pb b) 1) (b:=b) rfl hk1 hk (by omega) (by omega)
  have w1:IntKind.i64.wrap ((k:Int) + 1) = ((k + 1:Nat):Int):=by rw [wrap_i64 (by omega) (by omega)];omega
  generalize bM b (p - k) p 258 0 = y at *
  generalize k + 1 = k1 at *
  by_cases h:n < y
  · have hI:(n:Int) < (y:Int):=by omega
    rw [if_pos h]
    simp only [uf]
    (refine ⟨0,?_⟩;simp (maxSteps:=2000000) -implicitDefEqProofs [-getElem?_pos,go_sem,eqV,ah,hL,h,hI,w1])
  · have hI:¬ (n:Int) < (y:Int):=by omega
    rw [if_neg h]
    simp only [uf]
    (refine ⟨0,?_⟩;simp (maxSteps:=2000000) -implicitDefEqProofs [-getElem?_pos,go_sem,eqV,ah,hL,h,hI,w1])
theorem UA {m p:Nat} {v:AV} {E:AM.Heap} (hb:b.length≤1400) (hp:p≤1400):∃ code,((Try.f46.body).bind (aF [1,1,0,1,0,0,1,0,1,0,1])) = some code∧aj (Goes fun fr H=>∃ K,fr = uf c b v p (jZ b p p 1 (0,0)).1 (jZ b p p 1 (0,0)).2 K ++ [(23,.bool false)]∧H = E) X (evT X) 46 m code (uf c b v p 0 0 1) E:=by
  refine ⟨_,rfl,?_⟩
  apply aj.block
  refine aj.loop (σ:=Nat × (Nat × Nat)) (fun s=>1≤s.1∧s.1≤p + 1∧s.2.1≤258∧jZ b p (p + 1 - s.1) s.1 s.2 = jZ b p p 1 (0,0)) (fun s=>uf c b v p s.2.1 s.2.2 s.1) (fun _=>E) (fun s=>p + 1 - s.1) ?_ (1,(0,0)) ⟨by simp,by simp,by simp,rfl⟩
  rintro ⟨k,n,d⟩ ⟨h1,h2,h3,h4⟩
  simp only at h1 h2 h3 h4 ⊢
  have h6:=aa9 (m:=m) (c:=c) (b:=b) (p:=p) (n:=n) (d:=d) (k:=k) (v:=v) (E:=E)
  by_cases hc:k≤p∧k≤32768∧n < 258
  · left
    obtain ⟨g,hg⟩:∃ g,p + 1 - k = g + 1:=⟨p - k,by omega⟩
    rw [hg,jZ,if_pos hc] at h4
    rw [decide_eq_true hc] at h6
    have hsb:=(oU b (p - k) p 258 0 (by omega)).1
    refine ⟨(k + 1,if n < bM b (p - k) p 258 0 then (bM b (p - k) p 258 0,k) else (n,d)),⟨by simp,by simp only;omega,?_,?_⟩,?_,by simp only;omega⟩
    · simp only
      split
      · exact hsb
      · exact h3
    · rw [← h4]
      congr 1
      simp only
      omega
    · apply Run.seq (fr':=uf c b v p n d k ++ [(23,.bool true)]) (H':=E)
      · apply Run.seq (piece h6 _ rfl)
        exact Run.cond (d:=true) (by simp [uf,aC,au]) ⟨0,rfl⟩
      · exact piece (abb h1 hc.1 hb hp h3) _ rfl
  · right
    rw [decide_eq_false hc] at h6
    have hr:jZ b p (p + 1 - k) k (n,d) = (n,d):=by
      cases hq:p + 1 - k with
      | zero=>rfl
      | succ f=>rw [jZ,if_neg hc]
    rw [hr] at h4
    refine ⟨⟨.exit 2,uf c b v p n d k ++ [(23,.bool false)],E⟩,⟨rfl,k,by rw [← h4],rfl⟩,by simp,?_⟩
    refine Run.bH ?_ (by simp)
    apply Run.seq (piece h6 _ rfl)
    exact Run.cond (d:=false) (by simp [uf,aC,au]) ⟨0,rfl⟩
end
end Go.Proofs.Ytbodincpjijdiaa
namespace Go.Proofs.Ytbodincpjijdiaa
open Go.AM
def lkR (k:List UInt8):Pls→List Nat
  | []=>[]
  | y :: M=>if y.1 = k then y.2 else lkR k M
def ntR (k:List UInt8) (i:Nat):Pls→Pls
  | []=>[(k,[i])]
  | y :: M=>if y.1 = k then (k,y.2 ++ [i]) :: M else y :: ntR k i M
theorem Sj (k:List UInt8):∀ (M:Pls) (j0:Nat),lkR k M = (match qE k M j0 with | some j=>(M.getD (j - j0) ([],[])).2 | none=>[])
  | [],_=>rfl
  | y :: M,j0=>by
    unfold lkR qE
    by_cases h:y.1 = k
    · rw [if_pos h,if_pos h];simp
    · rw [if_neg h,if_neg h,Sj k M (j0 + 1)]
      cases hi:qE k M (j0 + 1) with
      | none=>rfl
      | some j =>
        have:=(rX hi).1
        simp only
        rw [show j - j0 = (j - (j0 + 1)) + 1 by omega]
        rfl
theorem X3 (M:Pls) (k:List UInt8):lkM M k = lkR k M:=by
  rw [Sj k M 0]
  rfl
theorem Sl (k:List UInt8) (i:Nat):∀ (M:Pls) (j0:Nat),ntR k i M = (match qE k M j0 with | some j=>M.set (j - j0) (k,(M.getD (j - j0) ([],[])).2 ++ [i]) | none=>M ++ [(k,[i])])
  | [],_=>rfl
  | y :: M,j0=>by
    unfold ntR qE
    by_cases h:y.1 = k
    · rw [if_pos h,if_pos h];simp
    · rw [if_neg h,if_neg h,Sl k i M (j0 + 1)]
      cases hi:qE k M (j0 + 1) with
      | none=>rfl
      | some j =>
        have:=(rX hi).1
        simp only
        rw [show j - j0 = (j - (j0 + 1)) + 1 by omega]
        rfl
theorem X4 (M:Pls) (k:List UInt8) (i:Nat):ntM M k i = ntR k i M:=by
  rw [Sl k i M 0]
  rfl
theorem Sm (k k':List UInt8) (i:Nat):∀ M:Pls,lkR k' (ntR k i M) = if k' = k then lkR k M ++ [i] else lkR k' M
  | []=>by
    unfold ntR lkR
    by_cases h:k = k'
    · rw [if_pos h,if_pos h.symm];rfl
    · rw [if_neg h,if_neg fun e=>h e.symm];rfl
  | y :: M=>by
    unfold ntR
    by_cases h:y.1 = k
    · rw [if_pos h]
      by_cases h2:k' = k
      · subst h2
        simp [lkR,h]
      · have h3:¬ k = k':=fun e=>h2 e.symm
        have h4:¬ y.1 = k':=fun e=>h2 (e.symm.trans h)
        simp [lkR,h2,h3,h4]
    · rw [if_neg h]
      by_cases h2:k' = k
      · subst h2
        have:=Sm k' k' i M
        rw [if_pos rfl] at this ⊢
        simp only [lkR,if_neg h,this]
      · have:=Sm k k' i M
        rw [if_neg h2] at this ⊢
        simp only [lkR,this]
def vT (b:List UInt8) (k:List UInt8) (p:Nat):List Nat:=(List.range p).filter fun i=>decide (i + 3≤b.length) && decide (jP b i = k)
theorem VK (b:List UInt8) (M:Pls) (p k:Nat):∀ n,qF b (qF b M p k) (p + k) n = qF b M p (k + n)
  | 0=>rfl
  | n + 1=>by
    show ntB b _ _ = ntB b _ _
    rw [VK b M p k n,Nat.add_assoc]
    rfl
theorem VJ (b:List UInt8) (k:List UInt8):∀ p,lkM (qF b [] 0 p) k = vT b k p
  | 0=>rfl
  | p + 1=>by
    have ih:=VJ b k p
    rw [X3] at ih ⊢
    show lkR k (ntB b (qF b [] 0 p) (0 + p)) = _
    unfold vT at ih ⊢
    rw [List.range_succ,List.filter_append,Nat.zero_add]
    unfold ntB
    by_cases h:p + 3≤b.length
    · rw [if_pos h,X4,Sm]
      by_cases h2:k = jP b p
      · rw [if_pos h2,← h2,ih]
        simp [h,← h2]
      · have h3:¬ jP b p = k:=fun e=>h2 e.symm
        rw [if_neg h2,ih]
        simp [h3]
    · rw [if_neg h,ih]
      simp [h]
end Go.Proofs.Ytbodincpjijdiaa
namespace Go.Proofs.Ytbodincpjijdiaa
open Go.AM
theorem Lp {b:List UInt8} {i p:Nat} (h:3≤bM b i p 258 0) (hi:i < p):p + 3≤b.length∧i + 3≤b.length∧jP b i = jP b p:=by
  have step:∀ {n f:Nat},n < bM b i p (f + 1) n→(n < 258∧p + n < b.length∧b[i + n]? = b[p + n]?)∧bM b i p (f + 1) n = bM b i p f (n + 1):=by
    intro n f hn
    have e:bM b i p (f + 1) n = if n < 258∧p + n < b.length∧b[i + n]? = b[p + n]? then bM b i p f (n + 1) else n:=rfl
    rw [e] at hn ⊢
    by_cases hc:n < 258∧p + n < b.length∧b[i + n]? = b[p + n]?
    · exact ⟨hc,by rw [if_pos hc]⟩
    · rw [if_neg hc] at hn
      omega
  replace h:3≤bM b i p (257 + 1) 0:=h
  obtain ⟨a1,e1⟩:=step (n:=0) (f:=257) (by omega)
  rw [e1] at h
  replace h:3≤bM b i p (256 + 1) 1:=h
  obtain ⟨a2,e2⟩:=step (n:=1) (f:=256) (by omega)
  rw [e2] at h
  replace h:3≤bM b i p (255 + 1) 2:=h
  obtain ⟨a3,e3⟩:=step (n:=2) (f:=255) (by omega)
  have hp:p + 2 < b.length:=a3.2.1
  have x0:b[p]? = some b[p]:=List.getElem?_eq_getElem (by omega)
  have x1:b[p + 1]? = some b[p + 1]:=List.getElem?_eq_getElem (by omega)
  have x2:b[p + 2]? = some b[p + 2]:=List.getElem?_eq_getElem (by omega)
  refine ⟨by omega,by omega,?_⟩
  rw [key_eq x0 x1 x2,key_eq (by rw [← x0];exact a1.2.2) (by rw [← x1];exact a2.2.2) (by rw [← x2];exact a3.2.2)]
end Go.Proofs.Ytbodincpjijdiaa
