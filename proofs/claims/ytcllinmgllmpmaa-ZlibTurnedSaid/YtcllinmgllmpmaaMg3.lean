/- E8 to ED: texts of this claim, one behind the other; what each shows stands at its head. -/
import Derived.Test.YtcllinmgllmpmaaAm3
import Derived.Test.YtcllinmgllmpmaaMg2
set_option linter.unusedSimpArgs false
set_option linter.unusedVariables false
set_option maxRecDepth 100000
set_option maxHeartbeats 8000000
namespace Go.Proofs.Ytcllinmgllmpmaa
open Go.AM
section
variable {c:Nat} {l:List Px}
theorem Nu {m:Nat} (hl:l.length≤2000):∃ code,Try.f41.body = some code∧aj (qo (exX l)) X (evT X) 41 m code [(0,.ro c (.pr 3 (l.map pxR)) 1)] []:=by
 refine ⟨_,rfl,?_⟩
 apply aj.seq (fr':=[(0,.ro c (.pr 3 (l.map pxR)) 1)]) (H':=[some (⟨.pb [],0,none,0,true,false,0⟩:AM.Obj)])
 ·generalize l.map pxR = R at *
  (refine ⟨0,?_⟩;simp (maxSteps:=2000000) -implicitDefEqProofs [-getElem?_pos,go_sem,eqV,ah,ak,rowOf,TK])
 apply aj.seq (fr':=[(0,.ro c (.pr 3 (l.map pxR)) 1),(4,.sl 1 0 0 0)]) (H':=[some (⟨.pb [],0,none,0,true,false,0⟩:AM.Obj),some (⟨.pb [],0,none,0,true,false,0⟩:AM.Obj)])
 ·generalize l.map pxR = R at *
  (refine ⟨0,?_⟩;simp (maxSteps:=2000000) -implicitDefEqProofs [-getElem?_pos,go_sem,eqV,ah,ak,rowOf,TK])
 have hE:([some (⟨.pb [],0,none,0,true,false,0⟩:AM.Obj),some (⟨.pb [],0,none,0,true,false,0⟩:AM.Obj)]:AM.Heap)[1]? = some (some ⟨.pb [],0,none,0,true,false,0⟩):=rfl
 generalize [some (⟨.pb [],0,none,0,true,false,0⟩:AM.Obj),some (⟨.pb [],0,none,0,true,false,0⟩:AM.Obj)] = E0 at *
 apply aj.assoc
 apply aj.seq (fr':=og (.sl 1 0 0 0) c l 0) (H':=E0)
 ·have hll:(l.map pxR).length = l.length:=by simp
  simp only [og]
  generalize l.map pxR = R at *
  generalize l.length = N at *
  (refine ⟨0,?_⟩;simp (maxSteps:=2000000) -implicitDefEqProofs [-getElem?_pos,go_sem,eqV,ah,hll])
 refine aj.tV (P:=fun fr E=>∃ o g ob,jX l [] = (o,0)∧au fr 4 = .sl 1 0 o.length g∧E[1]? = some (some ob)∧Rw (.pb o) g ob) ?_ ?_
 ·refine aj.kF (I:=fun k fr E'=>∃ i o g ob,i≤l.length∧k = l.length - i∧fr = og (.sl 1 0 o.length g) c l i∧E'[1]? = some (some ob)∧Rw (.pb o) g ob∧o.length≤258 * i∧jX (l.drop i) o = jX l []) ?_ (k:=l.length) ⟨0,[],0,_,by omega,rfl,rfl,hE,⟨rfl,rfl,rfl,rfl,rfl⟩,by simp,rfl⟩
  rintro k fr E' ⟨i,o,g,ob,hi,rfl,rfl,ho,hw,hol,he⟩
  by_cases hin:i = l.length
  ·rw [List.drop_of_length_le (by omega),jX] at he
   refine aj.of (o:=⟨.exit 0,og (.sl 1 0 o.length g) c l i ++ [(10,.bool false)],E'⟩) ?_ (.inr ⟨by simp,.inl ⟨rfl,o,g,ob,he.symm,by simp [og,au],ho,hw⟩⟩)
   subst hin
   refine ⟨0,?_⟩
   simp only [og]
   generalize l.map pxR = R at *
   generalize l.length = N at *
   generalize o.length = K at *
   simp (maxSteps:=2000000) -implicitDefEqProofs [-getElem?_pos,go_sem,eqV,ah]
  ·have hlt:i < l.length:=by omega
   have jU:(i:Int) < (l.length:Int):=by omega
   obtain ⟨x,hx⟩:∃ x,l[i]? = some x:=⟨_,List.getElem?_eq_getElem hlt⟩
   apply aj.seq (fr':=og (.sl 1 0 o.length g) c l i ++ [(10,.bool true)]) (H':=E')
   ·simp only [og]
    generalize l.map pxR = R at *
    generalize l.length = N at *
    generalize o.length = K at *
    (refine ⟨0,?_⟩;simp (maxSteps:=2000000) -implicitDefEqProofs [-getElem?_pos,go_sem,eqV,ah,jU,hlt])
   apply aj.seq (fr':=og (.sl 1 0 o.length g) c l i ++ [(10,.bool true)]) (H':=E')
   ·exact Run.cond (d:=true) (by simp [og,aF,au]) ⟨0,rfl⟩
   refine (piece (Yd (m:=m) (c:=c) hx hl ho hw hol he) _ rfl).mono ?_
   rintro out (⟨h1,o',g',ob',h2,h3,h4,h5,h6⟩ | ⟨h1,h2⟩)
   ·exact .inl ⟨h1,l.length - (i + 1),by omega,i + 1,o',g',ob',by omega,rfl,h2,h3,h4,h5,h6⟩
   ·exact .inr ⟨by rw [h1];simp,.inr ⟨h1,h1,h2⟩⟩
 ·rintro fr E' ⟨o,g,ob,he,h4,ho,hw⟩
  refine aj.of (o:=⟨.ret,[(2,.sl 1 0 o.length g),(3,.int .i64 0)],E'⟩) ?_ ⟨rfl,o,0,1,g,ob,he,rfl,rfl,ho,hw⟩
  refine ⟨0,?_⟩
  generalize o.length = K at *
  simp (maxSteps:=2000000) -implicitDefEqProofs [-getElem?_pos,go_sem,eqV,ah,h4,ak]
theorem TW {H:AM.Heap} {a:AV} (ha:dP H a = some (.pr 3 (l.map pxR))) (hl:l.length≤2000):∃ ob,Rw (.pb (jX l []).1) 0 ob∧evT X 41 [a] H = some (.tup [.sl H.length 0 (jX l []).1.length 0,.int .i64 (jX l []).2],H ++ [some ob]):=by
 obtain ⟨c,x,hx⟩:=fV (C:=X) (f:=41) (i:=0) rfl ha (fF 1)
 obtain ⟨code,hc,⟨out,⟨ho,o,e,a2,g,ob,h1,h2,h3,h4,hw⟩,hrun⟩⟩:=Nu (m:=0) (c:=c) (l:=l) hl
 rw [h1]
 obtain ⟨ob',q1,q2⟩:=Ev1.Ve (C:=X) (H:=H) (bU X) (n:=o.length) (l:=o) (rest:=[.int .i64 e]) Try.func41 hc hx rfl (by simp [dG]) rfl rfl rfl (by
  rw [acg]
  refine ⟨out,⟨ho,a2,g,ob,?_,h4,hw⟩,hrun⟩
  show aP X out.fr out.H [.tmp 2,.tmp 3] = _
  simp [aP,h2,h3])
 exact ⟨ob',q1,dX (by simpa [aO,eU] using q2)⟩
end
end Go.Proofs.Ytcllinmgllmpmaa
namespace Go.Proofs.Ytcllinmgllmpmaa
open Go.AM
def gF (per n:Nat):Nat→Nat→Nat→Nat→Nat→Nat × Nat × Nat
 | 0,s,base,bits,_=>(s,base,bits)
 | f + 1,s,base,bits,j=>if j = per then gF per n f s base (bits + 1) 0 else if n < base + 2 ^ bits then (s,base,bits) else gF per n f (s + 1) (base + 2 ^ bits) bits (j + 1)
def gOk (per n:Nat):Nat→Nat→Nat→Nat→Nat→Bool
 | 0,_,_,_,_=>false
 | f + 1,s,base,bits,j=>if j = per then gOk per n f s base (bits + 1) 0 else if n < base + 2 ^ bits then true else gOk per n f (s + 1) (base + 2 ^ bits) bits (j + 1)
def dL (n s base bits:Nat):AM.Frame:=[(0,.int .i64 (n:Nat)),(2,.int .i64 (s:Nat)),(3,.int .i64 (base:Nat)),(4,.int .i64 (bits:Nat))]
theorem V9 {bits:Nat} (h:bits≤40):IntKind.i64.wrap (2 ^ min bits 64) = ((2 ^ bits:Nat):Int):=by
 rw [Nat.min_eq_left (by omega)]
 have h1:2 ^ bits≤2 ^ 40:=Nat.pow_le_pow_right (by omega) h
 have h2:(2:Int) ^ bits = ((2 ^ bits:Nat):Int):=by push_cast;rfl
 rw [h2]
 generalize 2 ^ bits = u at *
 exact wrap_i64 (by omega) (by omega)
theorem Yk {m n s base bits j:Nat} {E:AM.Heap} (hn:n≤100000) (hs:s≤1000) (wW:bits≤40) (hb:base≤n + 100000) (hj:j < 4) :
  ∃ code,((Try.f45.body).bind (aI [1,1,1,1,1,0,0,0,0,1,0,0,1,1])) = some code∧Run X (evT X) 45 m code (dL n s base bits ++ [(15,.int .i64 (j:Nat)),(16,.bool true)]) E (if n < base + 2 ^ bits then ⟨.ret,[(2,.int .i64 (s:Nat)),(3,.int .i64 (base:Nat)),(4,.int .i64 (bits:Nat))],E⟩ else ⟨.normal,dL n (s + 1) (base + 2 ^ bits) bits ++ [(15,.int .i64 (j + 1:Nat))],E⟩):=by
 refine ⟨_,rfl,?_⟩
 have h1:2 ^ bits≤2 ^ 40:=Nat.pow_le_pow_right (by omega) wW
 have hp:=V9 wW
 generalize 2 ^ bits = pw at *
 have hb0:¬ (bits:Int) < 0:=by omega
 have w1:IntKind.i64.wrap ((base:Int) + ((pw:Nat):Int)) = ((base + pw:Nat):Int):=by rw [wrap_i64 (by omega) (by omega)];omega
 have w2:IntKind.i64.wrap ((s:Int) + 1) = ((s + 1:Nat):Int):=by rw [wrap_i64 (by omega) (by omega)];omega
 have w3:IntKind.i64.wrap ((j:Int) + 1) = ((j + 1:Nat):Int):=by rw [wrap_i64 (by omega) (by omega)];omega
 by_cases h:n < base + pw
 ·rw [if_pos h]
  have hI:(n:Int) < ((base + pw:Nat):Int):=by omega
  generalize base + pw = nb at *
  refine Run.bH ?_ (by simp)
  refine Run.block ?_ (by simp)
  refine Run.bH ?_ (by simp)
  apply Run.seq (fr':=dL n s base bits ++ [(15,.int .i64 (j:Nat)),(22,.bool true)]) (H':=E)
  ·simp only [dL]
   (refine ⟨0,?_⟩;simp (maxSteps:=2000000) -implicitDefEqProofs [-getElem?_pos,go_sem,eqV,ah,hp,hb0,w1,hI,h])
  refine Run.cond (d:=true) (by simp [dL,aF,au]) ?_
  apply Run.seq (fr':=[(2,.int .i64 (s:Nat)),(3,.int .i64 (base:Nat)),(4,.int .i64 (bits:Nat))]) (H':=E)
  ·simp only [dL]
   (refine ⟨0,?_⟩;simp (maxSteps:=2000000) -implicitDefEqProofs [-getElem?_pos,go_sem,eqV,ah,ak])
  ·exact ⟨0,rfl⟩
 ·rw [if_neg h]
  have hI:¬ (n:Int) < ((base + pw:Nat):Int):=by omega
  generalize base + pw = nb at *
  generalize s + 1 = s1 at *
  generalize j + 1 = j1 at *
  apply Run.seq (fr':=dL n s1 nb bits ++ [(15,.int .i64 (j:Nat))]) (H':=E)
  ·refine Run.block ?_ (by simp)
   apply Run.seq (fr':=dL n s base bits ++ [(15,.int .i64 (j:Nat)),(22,.bool false)]) (H':=E)
   ·apply Run.seq (fr':=dL n s base bits ++ [(15,.int .i64 (j:Nat)),(22,.bool false)]) (H':=E)
    ·simp only [dL]
     (refine ⟨0,?_⟩;simp (maxSteps:=2000000) -implicitDefEqProofs [-getElem?_pos,go_sem,eqV,ah,hp,hb0,w1,hI,h])
    ·exact Run.cond (d:=false) (by simp [dL,aF,au]) ⟨0,rfl⟩
   ·simp only [dL]
    (refine ⟨0,?_⟩;simp (maxSteps:=2000000) -implicitDefEqProofs [-getElem?_pos,go_sem,eqV,ah,hp,hb0,w1,w2,ak])
  ·simp only [dL]
   (refine ⟨0,?_⟩;simp (maxSteps:=2000000) -implicitDefEqProofs [-getElem?_pos,go_sem,eqV,ah,w3])
def lnR (R:Nat × Nat × Nat):AM.Frame:=[(2,.int .i64 (R.1:Nat)),(3,.int .i64 (R.2.1:Nat)),(4,.int .i64 (R.2.2:Nat))]
theorem ach {m n s base bits f:Nat} {R:Nat × Nat × Nat} {E:AM.Heap} (hn:n≤100000) (hs:s + f≤900) (wW:bits + f≤41) (hb:base≤n + 100000) (hok:gOk 4 n f s base bits 0 = true) (hR:gF 4 n f s base bits 0 = R) :
  ∃ code,((Try.f45.body).bind (aI [1,1,1,1,1,0,0,0,0,1])) = some code∧aj (fun o=>(o.ex = .normal∧o.H = E∧∃ s' base' f',f' < f∧s' + f'≤900∧bits + 1 + f'≤41∧base'≤n + 100000∧aZ [0,2,3,4] o.fr = dL n s' base' bits∧gOk 4 n f' s' base' (bits + 1) 0 = true∧gF 4 n f' s' base' (bits + 1) 0 = R)∨(o.ex = .ret∧o.fr = lnR R∧o.H = E)) X (evT X) 45 m code (dL n s base bits ++ [(15,.int .i64 (0:Nat))]) E:=by
 refine ⟨_,rfl,?_⟩
 refine aj.mono (aj.Jl (P:=fun fr H=>H = E∧∃ s' base' f',f' < f∧s' + f'≤900∧bits + 1 + f'≤41∧base'≤n + 100000∧aZ [0,2,3,4] fr = dL n s' base' bits∧gOk 4 n f' s' base' (bits + 1) 0 = true∧gF 4 n f' s' base' (bits + 1) 0 = R) (Q:=fun o=>o.ex = .ret∧o.fr = lnR R∧o.H = E) ?_) ?_
 ·refine aj.kF (I:=fun k fr H=>∃ s' base' j,k≤f∧s' + k≤900∧base'≤n + 100000∧j≤4∧fr = dL n s' base' bits ++ [(15,.int .i64 (j:Nat))]∧H = E∧gOk 4 n k s' base' bits j = true∧gF 4 n k s' base' bits j = R) ?_ (k:=f) ⟨s,base,0,by omega,hs,hb,by omega,rfl,rfl,hok,hR⟩
  rintro k fr H ⟨s',base',j,hk,hsk,hb',hj,rfl,rfl,hok',hR'⟩
  cases k with
  | zero=>simp [gOk] at hok'
  | succ k =>
   rw [gOk] at hok'
   rw [gF] at hR'
   by_cases hj4:j = 4
   ·subst hj4
    rw [if_pos rfl] at hok' hR'
    refine aj.of (o:=⟨.exit 2,dL n s' base' bits ++ [(15,.int .i64 (4:Nat)),(16,.bool false)],H⟩) ?_ (.inr ⟨by simp,.inl ⟨rfl,rfl,s',base',k,by omega,by omega,by omega,hb',by simp [dL,aZ,au],hok',hR'⟩⟩)
    refine ⟨0,?_⟩
    simp only [dL]
    simp (maxSteps:=2000000) -implicitDefEqProofs [-getElem?_pos,go_sem,eqV,ah]
   ·rw [if_neg hj4] at hok' hR'
    have hjl:j < 4:=by omega
    have hjI:(j:Int) < 4:=by omega
    have hst:=Yk (m:=m) (E:=H) (s:=s') (base:=base') (bits:=bits) (j:=j) hn (by omega) (by omega) hb' hjl
    by_cases hlt:n < base' + 2 ^ bits
    ·rw [if_pos hlt] at hok' hR' hst
     subst hR'
     refine aj.of (o:=⟨.ret,lnR (s',base',bits),H⟩) ?_ (.inr ⟨by simp,.inr ⟨rfl,rfl,rfl,rfl⟩⟩)
     apply Run.seq (fr':=dL n s' base' bits ++ [(15,.int .i64 (j:Nat)),(16,.bool true)]) (H':=H)
     ·simp only [dL]
      (refine ⟨0,?_⟩;simp (maxSteps:=2000000) -implicitDefEqProofs [-getElem?_pos,go_sem,eqV,ah,hjI,hjl])
     apply Run.seq (fr':=dL n s' base' bits ++ [(15,.int .i64 (j:Nat)),(16,.bool true)]) (H':=H)
     ·exact Run.cond (d:=true) (by simp [dL,aF,au]) ⟨0,rfl⟩
     exact piece hst _ rfl
    ·rw [if_neg hlt] at hok' hR' hst
     refine aj.of (o:=⟨.normal,dL n (s' + 1) (base' + 2 ^ bits) bits ++ [(15,.int .i64 (j + 1:Nat))],H⟩) ?_ (.inl ⟨rfl,k,by omega,s' + 1,base' + 2 ^ bits,j + 1,by omega,by omega,by omega,by omega,rfl,rfl,hok',hR'⟩)
     apply Run.seq (fr':=dL n s' base' bits ++ [(15,.int .i64 (j:Nat)),(16,.bool true)]) (H':=H)
     ·simp only [dL]
      (refine ⟨0,?_⟩;simp (maxSteps:=2000000) -implicitDefEqProofs [-getElem?_pos,go_sem,eqV,ah,hjI,hjl])
     apply Run.seq (fr':=dL n s' base' bits ++ [(15,.int .i64 (j:Nat)),(16,.bool true)]) (H':=H)
     ·exact Run.cond (d:=true) (by simp [dL,aF,au]) ⟨0,rfl⟩
     exact piece hst _ rfl
 ·rintro o (⟨h1,h2⟩ | ⟨h1,h2⟩)
  ·exact .inl ⟨h1,h2⟩
  ·exact .inr h2
def lenOf (n:Nat):Nat × Nat × Nat:=if n = 258 then (285,n,0) else if n≤10 then (254 + n,n,0) else gF 4 n 40 265 11 1 0
theorem AP {per n n':Nat} (h:n≤n'):∀ (f s base bits j:Nat),gOk per n' f s base bits j = true→gOk per n f s base bits j = true
 | 0,_,_,_,_,h1=>by cases h1
 | f + 1,s,base,bits,j,h1=>by
  unfold gOk at h1 ⊢
  split
  ·rename_i hj
   rw [if_pos hj] at h1
   exact AP h f _ _ _ _ h1
  ·rename_i hj
   rw [if_neg hj] at h1
   split
   ·rfl
   ·rename_i hn
    rw [if_neg (by omega)] at h1
    exact AP h f _ _ _ _ h1
theorem aar {n:Nat} (h:n≤258):gOk 4 n 40 265 11 1 0 = true:=AP h _ _ _ _ _ (by decide +kernel)
theorem Nv {m n:Nat} {E:AM.Heap} (h:n≤258):∃ code,Try.f45.body = some code∧aj (fun o=>o.ex = .ret∧o.fr = lnR (lenOf n)∧o.H = E) X (evT X) 45 m code [(0,.int .i64 (n:Nat))] E:=by
 refine ⟨_,rfl,?_⟩
 unfold lenOf
 apply aj.seq (fr':=[(0,.int .i64 (n:Nat))]) (H':=E)
 ·(refine ⟨0,?_⟩;simp (maxSteps:=2000000) -implicitDefEqProofs [-getElem?_pos,go_sem,eqV,ah,ak])
 by_cases h1:n = 258
 ·subst h1
  rw [if_pos rfl]
  refine aj.of (o:=⟨.ret,lnR (285,258,0),E⟩) ?_ ⟨rfl,rfl,rfl⟩
  refine ⟨0,?_⟩
  simp only [lnR]
  simp (maxSteps:=2000000) -implicitDefEqProofs [-getElem?_pos,go_sem,eqV,ah,ak]
 have h1I:¬ (n:Int) = 258:=by omega
 have h1b:((n:Int) == 258) = false:=by simpa using h1I
 rw [if_neg h1]
 apply aj.assoc
 apply aj.seq (fr':=[(0,.int .i64 (n:Nat)),(6,.bool false)]) (H':=E)
 ·(refine ⟨0,?_⟩;simp (maxSteps:=2000000) -implicitDefEqProofs [-getElem?_pos,go_sem,eqV,ah,h1,h1I,h1b])
 apply aj.seq (fr':=[(0,.int .i64 (n:Nat)),(6,.bool false)]) (H':=E)
 ·exact Run.cond (d:=false) (by simp [aF,au]) ⟨0,rfl⟩
 by_cases h2:n≤10
 ·rw [if_pos h2]
  have h2I:(n:Int)≤10:=by omega
  have w1:IntKind.i64.wrap (254 + (n:Int)) = ((254 + n:Nat):Int):=by rw [wrap_i64 (by omega) (by omega)];omega
  refine aj.of (o:=⟨.ret,lnR (254 + n,n,0),E⟩) ?_ ⟨rfl,rfl,rfl⟩
  refine ⟨0,?_⟩
  simp only [lnR]
  generalize 254 + n = s at *
  simp (maxSteps:=2000000) -implicitDefEqProofs [-getElem?_pos,go_sem,eqV,ah,h2,h2I,w1,ak]
 rw [if_neg h2]
 have h2I:¬ (n:Int)≤10:=by omega
 apply aj.assoc
 apply aj.seq (fr':=[(0,.int .i64 (n:Nat)),(9,.bool false)]) (H':=E)
 ·(refine ⟨0,?_⟩;simp (maxSteps:=2000000) -implicitDefEqProofs [-getElem?_pos,go_sem,eqV,ah,h2,h2I])
 apply aj.seq (fr':=[(0,.int .i64 (n:Nat)),(9,.bool false)]) (H':=E)
 ·exact Run.cond (d:=false) (by simp [aF,au]) ⟨0,rfl⟩
 apply aj.seq (fr':=[(0,.int .i64 (n:Nat)),(2,.int .i64 265),(3,.int .i64 11)]) (H':=E)
 ·(refine ⟨0,?_⟩;simp (maxSteps:=2000000) -implicitDefEqProofs [-getElem?_pos,go_sem,eqV,ah,ak])
 apply aj.seq (fr':=dL n 265 11 1) (H':=E)
 ·simp only [dL]
  (refine ⟨0,?_⟩;simp (maxSteps:=2000000) -implicitDefEqProofs [-getElem?_pos,go_sem,eqV,ah,ak])
 refine aj.blk ?_ (fun o ho=>by rw [ho.1];simp)
 refine aj.kF (I:=fun k fr H=>∃ s base bits,s + k≤900∧bits + k≤41∧base≤n + 100000∧fr = dL n s base bits∧H = E∧gOk 4 n k s base bits 0 = true∧gF 4 n k s base bits 0 = gF 4 n 40 265 11 1 0) ?_ (k:=40) ⟨265,11,1,by omega,by omega,by omega,rfl,rfl,aar h,rfl⟩
 rintro k fr H ⟨s,base,bits,hs,wW,hb,rfl,rfl,hok,hR⟩
 generalize gF 4 n 40 265 11 1 0 = R at *
 have h8:∃ code,((Try.f45.body).bind (aI [1,1,1,1,1,0,0,0,0,0])) = some code∧Run X (evT X) 45 m code (dL n s base bits) H ⟨.normal,dL n s base bits ++ [(15,.int .i64 (0:Nat))],H⟩:=by
  refine ⟨_,rfl,?_⟩
  simp only [dL]
  (refine ⟨0,?_⟩;simp (maxSteps:=2000000) -implicitDefEqProofs [-getElem?_pos,go_sem,eqV,ah])
 obtain ⟨Y4,hcB,⟨ex,fr,H2⟩,hq,hrB⟩:=ach (m:=m) (E:=H) (by omega) hs wW hb hok hR
 rcases hq with ⟨h3,h4,s',base',f',k1,k2,k3,k4,k5,k6,k7⟩ | ⟨h3,h4,h5⟩
 ·simp only at h3 h4 k5
  subst h3 h4
  have g0:au fr 0 = .int .i64 (n:Nat):=by simpa [aZ,dL,au] using congrArg (fun f=>au f 0) k5
  have g2:au fr 2 = .int .i64 (s':Nat):=by simpa [aZ,dL,au] using congrArg (fun f=>au f 2) k5
  have g3:au fr 3 = .int .i64 (base':Nat):=by simpa [aZ,dL,au] using congrArg (fun f=>au f 3) k5
  have g4:au fr 4 = .int .i64 (bits:Nat):=by simpa [aZ,dL,au] using congrArg (fun f=>au f 4) k5
  refine aj.of (o:=⟨.normal,dL n s' base' (bits + 1),H2⟩) ?_ (.inl ⟨rfl,f',k1,s',base',bits + 1,k2,k3,k4,rfl,rfl,k6,k7⟩)
  apply Run.seq (fr':=fr) (H':=H2)
  ·refine Run.block ?_ (by simp)
   exact Run.seq (piece h8 _ rfl) ((Option.some.inj hcB) ▸ hrB)
  ·have w1:IntKind.i64.wrap ((bits:Int) + 1) = ((bits + 1:Nat):Int):=by rw [wrap_i64 (by omega) (by omega)];omega
   generalize bits + 1 = b1 at *
   simp only [dL]
   (refine ⟨0,?_⟩;simp (maxSteps:=2000000) -implicitDefEqProofs [-getElem?_pos,go_sem,eqV,ah,g0,g2,g3,g4,w1,ak])
 ·simp only at h3 h4 h5
  subst h3 h4 h5
  refine aj.of (o:=⟨.ret,lnR R,H2⟩) ?_ (.inr ⟨by simp,rfl,rfl,rfl⟩)
  refine Run.bH ?_ (by simp)
  refine Run.block ?_ (by simp)
  exact Run.seq (piece h8 _ rfl) ((Option.some.inj hcB) ▸ hrB)
theorem TY {n:Nat} {H:AM.Heap} (h:n≤258):evT X 45 [.int .i64 (n:Nat)] H = some (.tup [.int .i64 ((lenOf n).1:Nat),.int .i64 ((lenOf n).2.1:Nat),.int .i64 ((lenOf n).2.2:Nat)],H):=by
 obtain ⟨code,hc,⟨out,⟨h1,h2,h3⟩,hr⟩⟩:=Nv (m:=0) (E:=[]) h
 have hx:=lH (C:=X) (f:=45) (i:=0) (a:=.int .i64 (n:Nat)) (H:=H) rfl rfl (fF 1)
 refine dX (Ev1.wG (l:=[.int .i64 ((lenOf n).1:Nat),.int .i64 ((lenOf n).2.1:Nat),.int .i64 ((lenOf n).2.2:Nat)]) (bU X) Try.func45 hc hx rfl (by simp [dG]) rfl rfl rfl ?_)
 rw [aci]
 refine ⟨out,⟨h1,?_⟩,hr⟩
 show aP X out.fr out.H [.tmp 2,.tmp 3,.tmp 4] = _
 rw [h2]
 rfl
end Go.Proofs.Ytcllinmgllmpmaa
namespace Go.Proofs.Ytcllinmgllmpmaa
open Go.AM
theorem Yl {m n s base bits j:Nat} {E:AM.Heap} (hn:n≤100000) (hs:s≤1000) (wW:bits≤40) (hb:base≤n + 100000) (hj:j < 2) :
  ∃ code,((Try.f46.body).bind (aI [1,1,1,1,0,0,0,0,1,0,0,1,1])) = some code∧Run X (evT X) 46 m code (dL n s base bits ++ [(12,.int .i64 (j:Nat)),(13,.bool true)]) E (if n < base + 2 ^ bits then ⟨.ret,[(2,.int .i64 (s:Nat)),(3,.int .i64 (base:Nat)),(4,.int .i64 (bits:Nat))],E⟩ else ⟨.normal,dL n (s + 1) (base + 2 ^ bits) bits ++ [(12,.int .i64 (j + 1:Nat))],E⟩):=by
 refine ⟨_,rfl,?_⟩
 have h1:2 ^ bits≤2 ^ 40:=Nat.pow_le_pow_right (by omega) wW
 have hp:=V9 wW
 generalize 2 ^ bits = pw at *
 have hb0:¬ (bits:Int) < 0:=by omega
 have w1:IntKind.i64.wrap ((base:Int) + ((pw:Nat):Int)) = ((base + pw:Nat):Int):=by rw [wrap_i64 (by omega) (by omega)];omega
 have w2:IntKind.i64.wrap ((s:Int) + 1) = ((s + 1:Nat):Int):=by rw [wrap_i64 (by omega) (by omega)];omega
 have w3:IntKind.i64.wrap ((j:Int) + 1) = ((j + 1:Nat):Int):=by rw [wrap_i64 (by omega) (by omega)];omega
 by_cases h:n < base + pw
 ·rw [if_pos h]
  have hI:(n:Int) < ((base + pw:Nat):Int):=by omega
  generalize base + pw = nb at *
  refine Run.bH ?_ (by simp)
  refine Run.block ?_ (by simp)
  refine Run.bH ?_ (by simp)
  apply Run.seq (fr':=dL n s base bits ++ [(12,.int .i64 (j:Nat)),(19,.bool true)]) (H':=E)
  ·simp only [dL]
   (refine ⟨0,?_⟩;simp (maxSteps:=2000000) -implicitDefEqProofs [-getElem?_pos,go_sem,eqV,ah,hp,hb0,w1,hI,h])
  refine Run.cond (d:=true) (by simp [dL,aF,au]) ?_
  apply Run.seq (fr':=[(2,.int .i64 (s:Nat)),(3,.int .i64 (base:Nat)),(4,.int .i64 (bits:Nat))]) (H':=E)
  ·simp only [dL]
   (refine ⟨0,?_⟩;simp (maxSteps:=2000000) -implicitDefEqProofs [-getElem?_pos,go_sem,eqV,ah,ak])
  ·exact ⟨0,rfl⟩
 ·rw [if_neg h]
  have hI:¬ (n:Int) < ((base + pw:Nat):Int):=by omega
  generalize base + pw = nb at *
  generalize s + 1 = s1 at *
  generalize j + 1 = j1 at *
  apply Run.seq (fr':=dL n s1 nb bits ++ [(12,.int .i64 (j:Nat))]) (H':=E)
  ·refine Run.block ?_ (by simp)
   apply Run.seq (fr':=dL n s base bits ++ [(12,.int .i64 (j:Nat)),(19,.bool false)]) (H':=E)
   ·apply Run.seq (fr':=dL n s base bits ++ [(12,.int .i64 (j:Nat)),(19,.bool false)]) (H':=E)
    ·simp only [dL]
     (refine ⟨0,?_⟩;simp (maxSteps:=2000000) -implicitDefEqProofs [-getElem?_pos,go_sem,eqV,ah,hp,hb0,w1,hI,h])
    ·exact Run.cond (d:=false) (by simp [dL,aF,au]) ⟨0,rfl⟩
   ·simp only [dL]
    (refine ⟨0,?_⟩;simp (maxSteps:=2000000) -implicitDefEqProofs [-getElem?_pos,go_sem,eqV,ah,hp,hb0,w1,w2,ak])
  ·simp only [dL]
   (refine ⟨0,?_⟩;simp (maxSteps:=2000000) -implicitDefEqProofs [-getElem?_pos,go_sem,eqV,ah,w3])
theorem acj {m n s base bits f:Nat} {R:Nat × Nat × Nat} {E:AM.Heap} (hn:n≤100000) (hs:s + f≤900) (wW:bits + f≤41) (hb:base≤n + 100000) (hok:gOk 2 n f s base bits 0 = true) (hR:gF 2 n f s base bits 0 = R) :
  ∃ code,((Try.f46.body).bind (aI [1,1,1,1,0,0,0,0,1])) = some code∧aj (fun o=>(o.ex = .normal∧o.H = E∧∃ s' base' f',f' < f∧s' + f'≤900∧bits + 1 + f'≤41∧base'≤n + 100000∧aZ [0,2,3,4] o.fr = dL n s' base' bits∧gOk 2 n f' s' base' (bits + 1) 0 = true∧gF 2 n f' s' base' (bits + 1) 0 = R)∨(o.ex = .ret∧o.fr = lnR R∧o.H = E)) X (evT X) 46 m code (dL n s base bits ++ [(12,.int .i64 (0:Nat))]) E:=by
 refine ⟨_,rfl,?_⟩
 refine aj.mono (aj.Jl (P:=fun fr H=>H = E∧∃ s' base' f',f' < f∧s' + f'≤900∧bits + 1 + f'≤41∧base'≤n + 100000∧aZ [0,2,3,4] fr = dL n s' base' bits∧gOk 2 n f' s' base' (bits + 1) 0 = true∧gF 2 n f' s' base' (bits + 1) 0 = R) (Q:=fun o=>o.ex = .ret∧o.fr = lnR R∧o.H = E) ?_) ?_
 ·refine aj.kF (I:=fun k fr H=>∃ s' base' j,k≤f∧s' + k≤900∧base'≤n + 100000∧j≤2∧fr = dL n s' base' bits ++ [(12,.int .i64 (j:Nat))]∧H = E∧gOk 2 n k s' base' bits j = true∧gF 2 n k s' base' bits j = R) ?_ (k:=f) ⟨s,base,0,by omega,hs,hb,by omega,rfl,rfl,hok,hR⟩
  rintro k fr H ⟨s',base',j,hk,hsk,hb',hj,rfl,rfl,hok',hR'⟩
  cases k with
  | zero=>simp [gOk] at hok'
  | succ k =>
   rw [gOk] at hok'
   rw [gF] at hR'
   by_cases hj2:j = 2
   ·subst hj2
    rw [if_pos rfl] at hok' hR'
    refine aj.of (o:=⟨.exit 2,dL n s' base' bits ++ [(12,.int .i64 (2:Nat)),(13,.bool false)],H⟩) ?_ (.inr ⟨by simp,.inl ⟨rfl,rfl,s',base',k,by omega,by omega,by omega,hb',by simp [dL,aZ,au],hok',hR'⟩⟩)
    refine ⟨0,?_⟩
    simp only [dL]
    simp (maxSteps:=2000000) -implicitDefEqProofs [-getElem?_pos,go_sem,eqV,ah]
   ·rw [if_neg hj2] at hok' hR'
    have hjl:j < 2:=by omega
    have hjI:(j:Int) < 2:=by omega
    have hst:=Yl (m:=m) (E:=H) (s:=s') (base:=base') (bits:=bits) (j:=j) hn (by omega) (by omega) hb' hjl
    by_cases hlt:n < base' + 2 ^ bits
    ·rw [if_pos hlt] at hok' hR' hst
     subst hR'
     refine aj.of (o:=⟨.ret,lnR (s',base',bits),H⟩) ?_ (.inr ⟨by simp,.inr ⟨rfl,rfl,rfl,rfl⟩⟩)
     apply Run.seq (fr':=dL n s' base' bits ++ [(12,.int .i64 (j:Nat)),(13,.bool true)]) (H':=H)
     ·simp only [dL]
      (refine ⟨0,?_⟩;simp (maxSteps:=2000000) -implicitDefEqProofs [-getElem?_pos,go_sem,eqV,ah,hjI,hjl])
     apply Run.seq (fr':=dL n s' base' bits ++ [(12,.int .i64 (j:Nat)),(13,.bool true)]) (H':=H)
     ·exact Run.cond (d:=true) (by simp [dL,aF,au]) ⟨0,rfl⟩
     exact piece hst _ rfl
    ·rw [if_neg hlt] at hok' hR' hst
     refine aj.of (o:=⟨.normal,dL n (s' + 1) (base' + 2 ^ bits) bits ++ [(12,.int .i64 (j + 1:Nat))],H⟩) ?_ (.inl ⟨rfl,k,by omega,s' + 1,base' + 2 ^ bits,j + 1,by omega,by omega,by omega,by omega,rfl,rfl,hok',hR'⟩)
     apply Run.seq (fr':=dL n s' base' bits ++ [(12,.int .i64 (j:Nat)),(13,.bool true)]) (H':=H)
     ·simp only [dL]
      (refine ⟨0,?_⟩;simp (maxSteps:=2000000) -implicitDefEqProofs [-getElem?_pos,go_sem,eqV,ah,hjI,hjl])
     apply Run.seq (fr':=dL n s' base' bits ++ [(12,.int .i64 (j:Nat)),(13,.bool true)]) (H':=H)
     ·exact Run.cond (d:=true) (by simp [dL,aF,au]) ⟨0,rfl⟩
     exact piece hst _ rfl
 ·rintro o (⟨h1,h2⟩ | ⟨h1,h2⟩)
  ·exact .inl ⟨h1,h2⟩
  ·exact .inr h2
def eH (n:Nat):Nat × Nat × Nat:=if n≤4 then (n - 1,n,0) else gF 2 n 40 4 5 1 0
theorem JX {n:Nat} (h:n≤32768):gOk 2 n 40 4 5 1 0 = true:=AP h _ _ _ _ _ (by decide +kernel)
theorem GI {m n:Nat} {E:AM.Heap} (h0:1≤n) (h:n≤32768):∃ code,Try.f46.body = some code∧aj (fun o=>o.ex = .ret∧o.fr = lnR (eH n)∧o.H = E) X (evT X) 46 m code [(0,.int .i64 (n:Nat))] E:=by
 refine ⟨_,rfl,?_⟩
 unfold eH
 apply aj.seq (fr':=[(0,.int .i64 (n:Nat))]) (H':=E)
 ·(refine ⟨0,?_⟩;simp (maxSteps:=2000000) -implicitDefEqProofs [-getElem?_pos,go_sem,eqV,ah,ak])
 by_cases h2:n≤4
 ·rw [if_pos h2]
  have h2I:(n:Int)≤4:=by omega
  have w1:IntKind.i64.wrap ((n:Int) - 1) = ((n - 1:Nat):Int):=by rw [wrap_i64 (by omega) (by omega)];omega
  refine aj.of (o:=⟨.ret,lnR (n - 1,n,0),E⟩) ?_ ⟨rfl,rfl,rfl⟩
  refine ⟨0,?_⟩
  simp only [lnR]
  generalize n - 1 = s at *
  simp (maxSteps:=2000000) -implicitDefEqProofs [-getElem?_pos,go_sem,eqV,ah,h2,h2I,w1,ak]
 rw [if_neg h2]
 have h2I:¬ (n:Int)≤4:=by omega
 apply aj.assoc
 apply aj.seq (fr':=[(0,.int .i64 (n:Nat)),(6,.bool false)]) (H':=E)
 ·(refine ⟨0,?_⟩;simp (maxSteps:=2000000) -implicitDefEqProofs [-getElem?_pos,go_sem,eqV,ah,h2,h2I])
 apply aj.seq (fr':=[(0,.int .i64 (n:Nat)),(6,.bool false)]) (H':=E)
 ·exact Run.cond (d:=false) (by simp [aF,au]) ⟨0,rfl⟩
 apply aj.seq (fr':=[(0,.int .i64 (n:Nat)),(2,.int .i64 4),(3,.int .i64 5)]) (H':=E)
 ·(refine ⟨0,?_⟩;simp (maxSteps:=2000000) -implicitDefEqProofs [-getElem?_pos,go_sem,eqV,ah,ak])
 apply aj.seq (fr':=dL n 4 5 1) (H':=E)
 ·simp only [dL]
  (refine ⟨0,?_⟩;simp (maxSteps:=2000000) -implicitDefEqProofs [-getElem?_pos,go_sem,eqV,ah,ak])
 refine aj.blk ?_ (fun o ho=>by rw [ho.1];simp)
 refine aj.kF (I:=fun k fr H=>∃ s base bits,s + k≤900∧bits + k≤41∧base≤n + 100000∧fr = dL n s base bits∧H = E∧gOk 2 n k s base bits 0 = true∧gF 2 n k s base bits 0 = gF 2 n 40 4 5 1 0) ?_ (k:=40) ⟨4,5,1,by omega,by omega,by omega,rfl,rfl,JX h,rfl⟩
 rintro k fr H ⟨s,base,bits,hs,wW,hb,rfl,rfl,hok,hR⟩
 generalize gF 2 n 40 4 5 1 0 = R at *
 have h8:∃ code,((Try.f46.body).bind (aI [1,1,1,1,0,0,0,0,0])) = some code∧Run X (evT X) 46 m code (dL n s base bits) H ⟨.normal,dL n s base bits ++ [(12,.int .i64 (0:Nat))],H⟩:=by
  refine ⟨_,rfl,?_⟩
  simp only [dL]
  (refine ⟨0,?_⟩;simp (maxSteps:=2000000) -implicitDefEqProofs [-getElem?_pos,go_sem,eqV,ah])
 obtain ⟨Y4,hcB,⟨ex,fr,H2⟩,hq,hrB⟩:=acj (m:=m) (E:=H) (by omega) hs wW hb hok hR
 rcases hq with ⟨h3,h4,s',base',f',k1,k2,k3,k4,k5,k6,k7⟩ | ⟨h3,h4,h5⟩
 ·simp only at h3 h4 k5
  subst h3 h4
  have g0:au fr 0 = .int .i64 (n:Nat):=by simpa [aZ,dL,au] using congrArg (fun f=>au f 0) k5
  have g2:au fr 2 = .int .i64 (s':Nat):=by simpa [aZ,dL,au] using congrArg (fun f=>au f 2) k5
  have g3:au fr 3 = .int .i64 (base':Nat):=by simpa [aZ,dL,au] using congrArg (fun f=>au f 3) k5
  have g4:au fr 4 = .int .i64 (bits:Nat):=by simpa [aZ,dL,au] using congrArg (fun f=>au f 4) k5
  refine aj.of (o:=⟨.normal,dL n s' base' (bits + 1),H2⟩) ?_ (.inl ⟨rfl,f',k1,s',base',bits + 1,k2,k3,k4,rfl,rfl,k6,k7⟩)
  apply Run.seq (fr':=fr) (H':=H2)
  ·refine Run.block ?_ (by simp)
   exact Run.seq (piece h8 _ rfl) ((Option.some.inj hcB) ▸ hrB)
  ·have w1:IntKind.i64.wrap ((bits:Int) + 1) = ((bits + 1:Nat):Int):=by rw [wrap_i64 (by omega) (by omega)];omega
   generalize bits + 1 = b1 at *
   simp only [dL]
   (refine ⟨0,?_⟩;simp (maxSteps:=2000000) -implicitDefEqProofs [-getElem?_pos,go_sem,eqV,ah,g0,g2,g3,g4,w1,ak])
 ·simp only at h3 h4 h5
  subst h3 h4 h5
  refine aj.of (o:=⟨.ret,lnR R,H2⟩) ?_ (.inr ⟨by simp,rfl,rfl,rfl⟩)
  refine Run.bH ?_ (by simp)
  refine Run.block ?_ (by simp)
  exact Run.seq (piece h8 _ rfl) ((Option.some.inj hcB) ▸ hrB)
theorem Nw {n:Nat} {H:AM.Heap} (h0:1≤n) (h:n≤32768):evT X 46 [.int .i64 (n:Nat)] H = some (.tup [.int .i64 ((eH n).1:Nat),.int .i64 ((eH n).2.1:Nat),.int .i64 ((eH n).2.2:Nat)],H):=by
 obtain ⟨code,hc,⟨out,⟨h1,h2,h3⟩,hr⟩⟩:=GI (m:=0) (E:=[]) h0 h
 have hx:=lH (C:=X) (f:=46) (i:=0) (a:=.int .i64 (n:Nat)) (H:=H) rfl rfl (fF 1)
 refine dX (Ev1.wG (l:=[.int .i64 ((eH n).1:Nat),.int .i64 ((eH n).2.1:Nat),.int .i64 ((eH n).2.2:Nat)]) (bU X) Try.func46 hc hx rfl (by simp [dG]) rfl rfl rfl ?_)
 rw [acn]
 refine ⟨out,⟨h1,?_⟩,hr⟩
 show aP X out.fr out.H [.tmp 2,.tmp 3,.tmp 4] = _
 rw [h2]
 rfl
end Go.Proofs.Ytcllinmgllmpmaa
namespace Go.Proofs.Ytcllinmgllmpmaa
open Go.AM
def iQ:List Int→List Int→List Int × Int
 | n,[]=>(n,0)
 | n,x :: r=>if 0≤x∧x≤15 then iQ (n.set x.toNat (IntKind.i64.wrap (n.getD x.toNat 0 + 1))) r else (n,2)
def z16:List Int:=[0,0,0,0,0,0,0,0,0,0,0,0,0,0,0,0]
def bf (l:List Int):List Int × Int:=if 320 < (l.length:Int) then (z16,3) else iQ z16 l
def bx (n:List Int):Option AM.Obj:=some { p:=.pi .i64 n,g:=0,cap:=some 16,z:=1,row:=false,ids:=false,tg:=0 }
theorem zo:∀ (l n:List Int),(iQ n l).1.length = n.length
 | [],n=>rfl
 | x :: r,n=>by
  simp only [iQ]
  split
  ·rw [zo r];simp
  ·rfl
def qx (c:Nat) (l n todo:List Int):AM.Out :=
 if (iQ n todo).2 = 0 then ⟨.exit 0,[(2,.ptr 0 0 0 0),(4,.ptr 1 0 0 0),(11,.ro c (.pi .i64 l) 1),(12,.int .i64 l.length),(13,.int .i64 l.length),(14,.bool false)],[bx z16,bx (iQ n todo).1]⟩
 else ⟨.ret,[(2,.ptr 0 0 0 0),(3,.int .i64 (iQ n todo).2)],[bx (iQ n todo).1,bx (iQ n todo).1]⟩
theorem Ny (T:Cf) (c:Nat) (l:List Int) (h63:l.length < 9223372036854775808):∃ code,Try.f72.body = some code ∧
  Run X T 72 0 code [(0,.ro c (.pi .i64 l) 1)] [] ⟨.ret,[(2,.ptr 0 0 0 0),(3,.int .i64 (bf l).2)],[bx (bf l).1,bx (bf l).1]⟩:=by
 refine ⟨_,rfl,?_⟩
 by_cases hl:320 < (l.length:Int)
 ·simp only [bf,hl,if_true]
  apply Run.seq
  ·(refine ⟨0,?_⟩;conv=>lhs;simp (maxSteps:=2000000) -implicitDefEqProofs [-getElem?_pos,go_sem,eqV,ah])
  apply Run.seq
  ·(refine ⟨0,?_⟩;conv=>lhs;simp (maxSteps:=2000000) -implicitDefEqProofs [-getElem?_pos,go_sem,eqV,ah])
  apply Run.bH
  ·apply Run.seq
   ·(refine ⟨0,?_⟩;conv=>lhs;simp (maxSteps:=2000000) -implicitDefEqProofs [-getElem?_pos,go_sem,eqV,ah,hl])
   ·refine Run.cond (d:=true) rfl ?_
    apply Run.seq
    ·(refine ⟨0,?_⟩;conv=>lhs;simp (maxSteps:=2000000) -implicitDefEqProofs [-getElem?_pos,go_sem,eqV,ah])
    ·exact ⟨0,rfl⟩
  ·simp
 ·simp only [bf,hl,if_false]
  apply Run.seq
  ·(refine ⟨0,?_⟩;conv=>lhs;simp (maxSteps:=2000000) -implicitDefEqProofs [-getElem?_pos,go_sem,eqV,ah])
  apply Run.seq
  ·(refine ⟨0,?_⟩;conv=>lhs;simp (maxSteps:=2000000) -implicitDefEqProofs [-getElem?_pos,go_sem,eqV,ah])
  apply Run.seq
  ·apply Run.seq
   ·(refine ⟨0,?_⟩;conv=>lhs;simp (maxSteps:=2000000) -implicitDefEqProofs [-getElem?_pos,go_sem,eqV,ah,hl])
   ·exact Run.cond (d:=false) rfl ⟨0,rfl⟩
  -- the loop
  apply Run.seq' (o:=jG 0 (qx c l z16 l))
  ·apply Run.seq
   ·(refine ⟨0,?_⟩;conv=>lhs;simp (maxSteps:=2000000) -implicitDefEqProofs [-getElem?_pos,go_sem,eqV,ah])
   ·apply Run.block'
    refine Run.qC (σ:=List Int × List Int × List Int) (fun s=>s.1.length = 16∧s.2.1 ++ s.2.2 = l) (fun s=>[(2,.ptr 0 0 0 0),(4,.ptr 1 0 0 0),(11,.ro c (.pi .i64 l) 1),(12,.int .i64 l.length),(13,.int .i64 (s.2.1.length:Nat))])
     (fun s=>[bx z16,bx s.1]) (fun s=>qx c l s.1 s.2.2) (fun s=>s.2.2.length) ?_ (z16,[],l) ⟨rfl,rfl⟩
    rintro ⟨n,done,todo⟩ ⟨hn,hd⟩
    simp only at hn hd ⊢
    cases todo with
    | nil =>
     right
     have hlen:done.length = l.length:=by rw [← hd];simp
     refine ⟨?_,by simp [qx,iQ]⟩
     simp only [qx,iQ,if_true]
     apply Run.seq
     ·(refine ⟨0,?_⟩;conv=>lhs;simp (maxSteps:=2000000) -implicitDefEqProofs [-getElem?_pos,go_sem,eqV,ah,hlen])
     ·apply Run.bH
      ·exact Run.cond (d:=false) rfl ⟨0,rfl⟩
      ·simp
    | cons x todo =>
     have hlt:done.length < l.length:=by rw [← hd];simp
     have hget:l[done.length]? = some x:=by rw [← hd];simp
     by_cases hx:0≤x∧x≤15
     ·left
      obtain ⟨v,hv⟩:∃ v,n[x.toNat]? = some v:=⟨n[x.toNat]'(by omega),List.getElem?_eq_getElem (by omega)⟩
      refine ⟨(n.set x.toNat (IntKind.i64.wrap (v + 1)),done ++ [x],todo),⟨by simpa using hn,by simpa using hd⟩,?_,?_,by simp⟩
      ·have jU:(done.length:Int) < (l.length:Int):=by omega
       have hx1:¬ x < 0:=by omega
       have hx2:¬ 15 < x:=by omega
       have hx3:x < 16:=by omega
       have e:IntKind.i64.wrap ((done.length:Int) + 1) = (done.length:Int) + 1:=wrap_i64 (by omega) (by omega)
       apply Run.seq
       ·(refine ⟨0,?_⟩;conv=>lhs;simp (maxSteps:=2000000) -implicitDefEqProofs [-getElem?_pos,go_sem,eqV,ah,jU])
       apply Run.seq
       ·exact Run.cond (d:=true) rfl ⟨0,rfl⟩
       apply Run.seq
       ·apply Run.block
        ·apply Run.seq
         ·(refine ⟨0,?_⟩;conv=>lhs;simp (maxSteps:=2000000) -implicitDefEqProofs [-getElem?_pos,go_sem,eqV,ah,hget,hlt])
         apply Run.seq
         ·apply Run.seq
          ·(refine ⟨0,?_⟩;conv=>lhs;simp (maxSteps:=2000000) -implicitDefEqProofs [-getElem?_pos,go_sem,eqV,ah,hx1,hx2])
          ·exact Run.cond (d:=false) rfl ⟨0,rfl⟩
         ·(refine ⟨0,?_⟩;conv=>lhs;simp (maxSteps:=2000000) -implicitDefEqProofs [-getElem?_pos,go_sem,eqV,ah,hx.1,hx3,hv,bx,hn])
        ·simp
       ·(refine ⟨0,?_⟩;simp (maxSteps:=2000000) -implicitDefEqProofs [-getElem?_pos,go_sem,eqV,ah,e,bx,List.getD_eq_getElem?_getD,hv])
      ·simp [qx,iQ,hx,List.getD_eq_getElem?_getD,hv]
     ·right
      refine ⟨?_,by simp [qx,iQ,hx]⟩
      have jU:(done.length:Int) < (l.length:Int):=by omega
      simp only [qx,iQ,hx,if_false]
      apply Run.seq
      ·(refine ⟨0,?_⟩;conv=>lhs;simp (maxSteps:=2000000) -implicitDefEqProofs [-getElem?_pos,go_sem,eqV,ah,jU])
      apply Run.seq
      ·exact Run.cond (d:=true) rfl ⟨0,rfl⟩
      apply Run.bH
      ·apply Run.block
       ·apply Run.seq
        ·(refine ⟨0,?_⟩;conv=>lhs;simp (maxSteps:=2000000) -implicitDefEqProofs [-getElem?_pos,go_sem,eqV,ah,hget,hlt])
        apply Run.bH
        ·refine Run.seq (fr':=[(2,.ptr 0 0 0 0),(4,.ptr 1 0 0 0),(6,.int .i64 x),(11,.ro c (.pi .i64 l) 1),(12,.int .i64 l.length),(13,.int .i64 done.length),(22,.bool true)]) (H':=[bx z16,bx n]) ⟨0,?_⟩ ?_
         ·by_cases hx1:x < 0
          ·simp (maxSteps:=2000000) -implicitDefEqProofs [-getElem?_pos,go_sem,eqV,ah,hx1]
          ·have hx2:15 < x:=by omega
           simp (maxSteps:=2000000) -implicitDefEqProofs [-getElem?_pos,go_sem,eqV,ah,hx1,hx2]
         ·refine Run.cond (d:=true) rfl ?_
          apply Run.seq
          ·(refine ⟨0,?_⟩;conv=>lhs;simp (maxSteps:=2000000) -implicitDefEqProofs [-getElem?_pos,go_sem,eqV,ah,bx,z16,hn])
          ·exact ⟨0,rfl⟩
        ·simp
       ·simp
      ·simp
  ·intro fr' H' h
   unfold qx at h
   split at h
   ·rename_i he
    simp only [jG,if_true,Out.mk.injEq,true_and] at h
    obtain ⟨rfl,rfl⟩:=h
    rw [he]
    have hn:=zo l z16
    generalize (iQ z16 l).1 = n at hn ⊢
    have hn':n.length = 16:=hn
    apply Run.seq
    ·(refine ⟨0,?_⟩;conv=>lhs;simp (maxSteps:=2000000) -implicitDefEqProofs [-getElem?_pos,go_sem,eqV,ah,bx,z16,hn'])
    ·exact ⟨0,rfl⟩
   ·simp [jG] at h
  ·intro h
   unfold qx at h ⊢
   split at h
   ·simp [jG] at h
   ·rename_i he
    rw [if_neg he]
    rfl
end Go.Proofs.Ytcllinmgllmpmaa
namespace Go.Proofs.Ytcllinmgllmpmaa
open Go.AM
theorem jT (l:List Int):(bf l).1.length = 16:=by
 unfold bf
 split
 ·rfl
 ·rw [zo];rfl
theorem Iy:∀ (l n:List Int),(iQ n l).2 = 0→∀ x ∈ l,0≤x∧x≤15
 | [],n,_=>by simp
 | x :: r,n,h=>by
  simp only [iQ] at h
  split at h
  ·rename_i hx
   intro y hy
   rcases List.mem_cons.1 hy with rfl | hy
   ·exact hx
   ·exact Iy r _ h y hy
  ·simp at h
theorem Pz {l:List Int} (h:(bf l).2 = 0):l.length≤320∧∀ x ∈ l,0≤x∧x≤15:=by
 unfold bf at h
 split at h
 ·simp at h
 ·rename_i hl
  exact ⟨by omega,Iy l z16 h⟩
def cnt (l:List Int):AV:=.tup [.agg (.pi .i64 (bf l).1),.int .i64 (bf l).2]
theorem Ua (c:Nat) (l:List Int) (h63:l.length < 9223372036854775808):Ev1 X 72 [.ro c (.pi .i64 l) 1] [] (cnt l,[]):=by
 obtain ⟨code,hb,hr⟩:=Ny (fun _ _ _=>.none) c l h63
 have hn:=jT l
 exact Ev1.plain (l:=[.agg (.pi .i64 (bf l).1),.int .i64 (bf l).2]) Below.none Try.func72 hb rfl rfl (by simp [dG]) hr (.inr rfl) (by
  have:Try.f72.results.toList = [.cell 2 96,.tmp 3]:=rfl
  rw [this]
  simp [-getElem?_pos,List.getElem?_cons_zero,aP,vC,au,live,bx,Gt,hn,wL]) rfl rfl
def S1 (f:Nat) (xs:List AV):Option (AV × AM.Heap) :=
 match f,xs with
 | 72,[.ro _ (.pi .i64 l) 1]=>if l.length < 9223372036854775808 then some (cnt l,[]) else .none
 | _,_=>.none
theorem Y8:∀ f xs v N,S1 f xs = some (v,N)→Ev1 X f xs [] (v,N):=by
 intro f xs v N h
 unfold S1 at h
 split at h
 ·split at h
  ·rename_i hl
   simp only [Option.some.injEq,Prod.mk.injEq] at h
   obtain ⟨rfl,rfl⟩:=h
   exact Ua _ _ hl
  ·cases h
 ·cases h
noncomputable def T1:Cf:=Am X S1
theorem Wh:Below X T1:=wS Y8
theorem Ub {H:AM.Heap} {a:AV} {l:List Int} (h:dP H a = some (.pi .i64 l)) (hl:l.length < 9223372036854775808):T1 72 [a] H = some (cnt l,H):=by
 obtain ⟨c,x,hx⟩:=fV (C:=X) (f:=72) (i:=0) rfl h (fF 1)
 unfold T1 Am
 rw [hx]
 simp [S1,hl,aA,ids,cnt,wu,qP,tags,aU,dh,kG,ren,bn]
theorem aco (c t:Nat) (l:List Int) (H:AM.Heap) (hl:l.length < 9223372036854775808):T1 72 [.ro c (.pi .i64 l) t] H = some (cnt l,H):=Ub rfl hl
def GK (n:List Int):Nat→Nat→Int→Int
 | 0,_,s=>s
 | k + 1,i,s=>GK n k (i + 1) (IntKind.i64.wrap (s + IntKind.i64.wrap (n.getD i 0 * 2 ^ (min (15 - i) 64))))
def jK (l:List Int):Bool × Int :=
 if (bf l).2 = 0 then
  if 32768 < GK (bf l).1 15 1 0 then (false,7) else (GK (bf l).1 15 1 0 == 32768,0)
 else (false,(bf l).2)
theorem PD (c:Nat) (l:List Int) (h63:l.length < 9223372036854775808):∃ code,Try.f67.body = some code ∧
  Run X T1 67 0 code [(0,.ro c (.pi .i64 l) 1)] [] ⟨.ret,[(2,.bool (jK l).1),(3,.int .i64 (jK l).2)],[bx (bf l).1]⟩:=by
 refine ⟨_,rfl,?_⟩
 have hT:=fun H=>aco c 1 l H h63
 have hn:=jT l
 unfold jK
 unfold cnt at hT
 generalize (bf l).1 = n at hT hn ⊢
 generalize (bf l).2 = e at hT ⊢
 apply Run.seq
 ·(refine ⟨0,?_⟩;conv=>lhs;simp (maxSteps:=2000000) -implicitDefEqProofs [-getElem?_pos,go_sem,eqV,ah])
 apply Run.seq
 ·(refine ⟨0,?_⟩;conv=>lhs;simp (maxSteps:=2000000) -implicitDefEqProofs [-getElem?_pos,go_sem,eqV,ah,hT,hn])
 by_cases he:e = 0
 ·subst he
  simp only [if_true]
  apply Run.seq
  ·apply Run.seq
   ·(refine ⟨0,?_⟩;conv=>lhs;simp (maxSteps:=2000000) -implicitDefEqProofs [-getElem?_pos,go_sem,eqV,ah])
   ·exact Run.cond (d:=false) rfl ⟨0,rfl⟩
  apply Run.seq
  ·(refine ⟨0,?_⟩;conv=>lhs;simp (maxSteps:=2000000) -implicitDefEqProofs [-getElem?_pos,go_sem,eqV,ah])
  apply Run.seq (fr':=[(4,.ptr 0 0 0 0),(5,.int .i64 (GK n 15 1 0)),(6,.int .i64 16),(16,.bool false)]) (H':=[bx n])
  ·apply Run.seq (fr':=[(4,.ptr 0 0 0 0),(5,.int .i64 0),(6,.int .i64 (1:Nat))]) (H':=[bx n])
   ·(refine ⟨0,?_⟩;simp (maxSteps:=2000000) -implicitDefEqProofs [-getElem?_pos,go_sem,eqV,ah,bx])
   ·apply Run.iP
    refine Run.qC (σ:=Nat × Nat × Int) (fun s=>s.1 + s.2.1 = 16∧1≤s.2.1) (fun s=>[(4,.ptr 0 0 0 0),(5,.int .i64 s.2.2),(6,.int .i64 (s.2.1:Nat))]) (fun _=>[bx n])
     (fun s=>⟨.exit 0,[(4,.ptr 0 0 0 0),(5,.int .i64 (GK n s.1 s.2.1 s.2.2)),(6,.int .i64 16),(16,.bool false)],[bx n]⟩) (fun s=>s.1) ?_ (15,1,0) ⟨rfl,Nat.le_refl 1⟩
    rintro ⟨k,i,s⟩ ⟨hk,hi⟩
    simp only at hk hi ⊢
    cases k with
    | zero =>
     right
     have:i = 16:=by omega
     subst this
     refine ⟨?_,by simp⟩
     apply Run.bH
     ·(refine ⟨0,?_⟩;simp (maxSteps:=2000000) -implicitDefEqProofs [-getElem?_pos,go_sem,eqV,ah,GK])
     ·simp
    | succ k =>
     left
     refine ⟨(k,i + 1,IntKind.i64.wrap (s + IntKind.i64.wrap (n.getD i 0 * 2 ^ (min (15 - i) 64)))),⟨show k + (i + 1) = 16 by omega,show 1≤i + 1 by omega⟩,?_,rfl,by simp⟩
     obtain ⟨v,hv⟩:∃ v,n[i]? = some v:=⟨n[i]'(by omega),List.getElem?_eq_getElem (by omega)⟩
     have XT:(i:Int)≤15:=by omega
     have TA:i < 16:=by omega
     have aas:(i:Int) < 16:=by omega
     have e1:IntKind.i64.wrap (15 - (i:Int)) = 15 - (i:Int):=wrap_i64 (by omega) (by omega)
     have e2:(15 - (i:Int)).toNat = 15 - i:=by omega
     have e3:¬ (15 - (i:Int) < 0):=by omega
     have e4:IntKind.i64.wrap ((i:Int) + 1) = (i:Int) + 1:=wrap_i64 (by omega) (by omega)
     apply Run.seq
     ·(refine ⟨0,?_⟩;conv=>lhs;simp (maxSteps:=2000000) -implicitDefEqProofs [-getElem?_pos,go_sem,eqV,ah,XT])
     apply Run.seq
     ·apply Run.block
      ·(refine ⟨0,?_⟩;conv=>lhs;simp (maxSteps:=2000000) -implicitDefEqProofs [-getElem?_pos,go_sem,eqV,ah,bx,hn,TA,aas,hv,e1,e2,e3,IntKind.bits])
      ·simp
     ·(refine ⟨0,?_⟩;simp (maxSteps:=2000000) -implicitDefEqProofs [-getElem?_pos,go_sem,eqV,ah,e4,List.getD_eq_getElem?_getD,hv,bx])
  ·by_cases hs:32768 < GK n 15 1 0
   ·simp only [hs,if_true]
    apply Run.bH
    ·apply Run.seq
     ·(refine ⟨0,?_⟩;conv=>lhs;simp (maxSteps:=2000000) -implicitDefEqProofs [-getElem?_pos,go_sem,eqV,ah,hs])
     ·refine Run.cond (d:=true) rfl ?_
      apply Run.seq
      ·(refine ⟨0,?_⟩;conv=>lhs;simp (maxSteps:=2000000) -implicitDefEqProofs [-getElem?_pos,go_sem,eqV,ah])
      ·exact ⟨0,rfl⟩
    ·simp
   ·simp only [hs,if_false]
    apply Run.seq
    ·apply Run.seq
     ·(refine ⟨0,?_⟩;conv=>lhs;simp (maxSteps:=2000000) -implicitDefEqProofs [-getElem?_pos,go_sem,eqV,ah,hs])
     ·exact Run.cond (d:=false) rfl ⟨0,rfl⟩
    apply Run.seq
    ·(refine ⟨0,?_⟩;conv=>lhs;simp (maxSteps:=2000000) -implicitDefEqProofs [-getElem?_pos,go_sem,eqV,ah])
    ·exact ⟨0,rfl⟩
 ·simp only [he,if_false]
  have hb:(e != 0) = true:=by simpa using he
  apply Run.bH
  ·apply Run.seq
   ·(refine ⟨0,?_⟩;conv=>lhs;simp (maxSteps:=2000000) -implicitDefEqProofs [-getElem?_pos,go_sem,eqV,ah,hb])
   ·refine Run.cond (d:=true) rfl ?_
    apply Run.seq
    ·(refine ⟨0,?_⟩;conv=>lhs;simp (maxSteps:=2000000) -implicitDefEqProofs [-getElem?_pos,go_sem,eqV,ah,bx])
    ·exact ⟨0,rfl⟩
  ·simp
end Go.Proofs.Ytcllinmgllmpmaa
namespace Go.Proofs.Ytcllinmgllmpmaa
open Go.AM
def nC (n:List Int):Option AM.Obj:=some { p:=.pi .i64 n,g:=0,cap:=some 17,z:=1,row:=false,ids:=false,tg:=0 }
def z17:List Int:=[0,0,0,0,0,0,0,0,0,0,0,0,0,0,0,0,0]
def ru (n:List Int):Nat→Nat→List Int→List Int
 | 0,_,f=>f
 | k + 1,i,f=>ru n k (i + 1) (f.set (i + 1) (IntKind.i64.wrap (IntKind.i64.wrap (f.getD i 0 + n.getD i 0) * 2)))
def dW (n:List Int):List Int:=ru (n.set 0 0) 15 1 z17
theorem kY (n:List Int):∀ (k i:Nat) (f:List Int),(ru n k i f).length = f.length
 | 0,_,_=>rfl
 | k + 1,i,f=>by rw [ru,kY n k];simp
theorem Nz (T:Cf) (n0:List Int) (hn0:n0.length = 16):∃ code,Try.f73.body = some code ∧
  Run X T 73 0 code [(0,.agg (.pi .i64 n0))] [] ⟨.ret,[(2,.ptr 1 0 0 0)],[bx (n0.set 0 0),nC (dW n0),nC (dW n0)]⟩:=by
 refine ⟨_,rfl,?_⟩
 unfold dW
 have hn:(n0.set 0 0).length = 16:=by simpa using hn0
 have h0:0 < n0.length:=by omega
 apply Run.seq
 ·(refine ⟨0,?_⟩;conv=>lhs;simp (maxSteps:=2000000) -implicitDefEqProofs [-getElem?_pos,go_sem,eqV,ah,hn0])
 apply Run.seq
 ·(refine ⟨0,?_⟩;conv=>lhs;simp (maxSteps:=2000000) -implicitDefEqProofs [-getElem?_pos,go_sem,eqV,ah])
 apply Run.seq (fr':=[(1,.ptr 0 0 0 0),(2,.ptr 1 0 0 0),(3,.ptr 2 0 0 0)]) (H':=[bx (n0.set 0 0),nC z17,nC z17])
 ·(refine ⟨0,?_⟩;simp (maxSteps:=2000000) -implicitDefEqProofs [-getElem?_pos,go_sem,eqV,ah,h0,bx,nC,z17,hn0])
 generalize n0.set 0 0 = n at hn ⊢
 have hlen:=kY n 15 1 z17
 apply Run.seq (fr':=[(1,.ptr 0 0 0 0),(2,.ptr 1 0 0 0),(3,.ptr 2 0 0 0),(4,.int .i64 16),(7,.bool false)]) (H':=[bx n,nC z17,nC (ru n 15 1 z17)])
 ·apply Run.seq (fr':=[(1,.ptr 0 0 0 0),(2,.ptr 1 0 0 0),(3,.ptr 2 0 0 0),(4,.int .i64 (1:Nat))]) (H':=[bx n,nC z17,nC z17])
  ·(refine ⟨0,?_⟩;simp (maxSteps:=2000000) -implicitDefEqProofs [-getElem?_pos,go_sem,eqV,ah])
  ·apply Run.iP
   refine Run.qC (σ:=Nat × Nat × List Int) (fun s=>s.1 + s.2.1 = 16∧1≤s.2.1∧s.2.2.length = 17) (fun s=>[(1,.ptr 0 0 0 0),(2,.ptr 1 0 0 0),(3,.ptr 2 0 0 0),(4,.int .i64 (s.2.1:Nat))]) (fun s=>[bx n,nC z17,nC s.2.2])
    (fun s=>⟨.exit 0,[(1,.ptr 0 0 0 0),(2,.ptr 1 0 0 0),(3,.ptr 2 0 0 0),(4,.int .i64 16),(7,.bool false)],[bx n,nC z17,nC (ru n s.1 s.2.1 s.2.2)]⟩) (fun s=>s.1) ?_ (15,1,z17) ⟨rfl,Nat.le_refl 1,rfl⟩
   rintro ⟨k,i,f⟩ ⟨hk,hi,hf⟩
   simp only at hk hi hf ⊢
   cases k with
   | zero =>
    right
    have:i = 16:=by omega
    subst this
    refine ⟨?_,by simp⟩
    apply Run.bH
    ·(refine ⟨0,?_⟩;simp (maxSteps:=2000000) -implicitDefEqProofs [-getElem?_pos,go_sem,eqV,ah,ru])
    ·simp
   | succ k =>
    left
    refine ⟨(k,i + 1,f.set (i + 1) (IntKind.i64.wrap (IntKind.i64.wrap (f.getD i 0 + n.getD i 0) * 2))),⟨show k + (i + 1) = 16 by omega,show 1≤i + 1 by omega,by simpa using hf⟩,?_,rfl,by simp⟩
    obtain ⟨v,hv⟩:∃ v,n[i]? = some v:=⟨n[i]'(by omega),List.getElem?_eq_getElem (by omega)⟩
    obtain ⟨u,hu⟩:∃ v,f[i]? = some v:=⟨f[i]'(by omega),List.getElem?_eq_getElem (by omega)⟩
    have XT:(i:Int)≤15:=by omega
    have TA:i < 16:=by omega
    have aas:(i:Int) < 16:=by omega
    have agN:(i:Int) < 17:=by omega
    have agO:i + 1 < 17:=by omega
    have XU:i < 17:=by omega
    have hiI:(i:Int) + 1 < 17:=by omega
    have hiJ:(0:Int)≤(i:Int) + 1:=by omega
    have e4:IntKind.i64.wrap ((i:Int) + 1) = (i:Int) + 1:=wrap_i64 (by omega) (by omega)
    have e5:((i:Int) + 1).toNat = i + 1:=by omega
    apply Run.seq
    ·(refine ⟨0,?_⟩;conv=>lhs;simp (maxSteps:=2000000) -implicitDefEqProofs [-getElem?_pos,go_sem,eqV,ah,XT])
    apply Run.seq
    ·apply Run.block
     ·(refine ⟨0,?_⟩;conv=>lhs;simp (maxSteps:=2000000) -implicitDefEqProofs [-getElem?_pos,go_sem,eqV,ah,bx,nC,hn,hf,TA,aas,agN,agO,XU,hiI,hiJ,hv,hu,e4,e5,IntKind.bits])
     ·simp
    ·(refine ⟨0,?_⟩;simp (maxSteps:=2000000) -implicitDefEqProofs [-getElem?_pos,go_sem,eqV,ah,e4,List.getD_eq_getElem?_getD,hv,hu,bx,nC])
 generalize ru n 15 1 z17 = F at hlen ⊢
 have hF:F.length = 17:=hlen
 apply Run.seq
 ·(refine ⟨0,?_⟩;conv=>lhs;simp (maxSteps:=2000000) -implicitDefEqProofs [-getElem?_pos,go_sem,eqV,ah,bx,nC,z17,hF])
 ·exact ⟨0,rfl⟩
def ckV (l:List Int):AV:=.tup [.bool (jK l).1,.int .i64 (jK l).2]
theorem Wi (c:Nat) (l:List Int) (h63:l.length < 9223372036854775808):Ev1 X 67 [.ro c (.pi .i64 l) 1] [] (ckV l,[]):=by
 obtain ⟨code,hb,hr⟩:=PD c l h63
 exact Ev1.plain (l:=[.bool (jK l).1,.int .i64 (jK l).2]) Wh Try.func67 hb rfl rfl (by simp [dG]) hr (.inr rfl) rfl rfl rfl
theorem Uc (n:List Int) (hn:n.length = 16):Ev1 X 73 [.agg (.pi .i64 n)] [] (.agg (.pi .i64 (dW n)),[]):=by
 obtain ⟨code,hb,hr⟩:=Nz (fun _ _ _=>.none) n hn
 have hF:(dW n).length = 17:=kY _ _ _ _
 exact Ev1.plain (l:=[.agg (.pi .i64 (dW n))]) Below.none Try.func73 hb rfl rfl (by simp [dG]) hr (.inr rfl) (by
  have:Try.f73.results.toList = [.cell 2 99]:=rfl
  rw [this]
  simp [-getElem?_pos,List.getElem?_cons_zero,List.getElem?_cons_succ,aP,vC,au,live,bx,nC,Gt,hF,wL]) rfl rfl
def S2 (f:Nat) (xs:List AV):Option (AV × AM.Heap) :=
 match f,xs with
 | 67,[.ro _ (.pi .i64 l) 1]=>if l.length < 9223372036854775808 then some (ckV l,[]) else .none
 | 73,[.agg (.pi .i64 n)]=>if n.length = 16 then some (.agg (.pi .i64 (dW n)),[]) else .none
 | f,xs=>S1 f xs
theorem acp:∀ f xs v N,S2 f xs = some (v,N)→Ev1 X f xs [] (v,N):=by
 intro f xs v N h
 unfold S2 at h
 split at h
 ·split at h
  ·rename_i hl
   simp only [Option.some.injEq,Prod.mk.injEq] at h
   obtain ⟨rfl,rfl⟩:=h
   exact Wi _ _ hl
  ·cases h
 ·split at h
  ·rename_i hl
   simp only [Option.some.injEq,Prod.mk.injEq] at h
   obtain ⟨rfl,rfl⟩:=h
   exact Uc _ hl
  ·cases h
 ·exact Y8 _ _ _ _ h
noncomputable def T2:Cf:=Am X S2
theorem zS:Below X T2:=wS acp
theorem Ia {H:AM.Heap} {a:AV} {l:List Int} (h:dP H a = some (.pi .i64 l)) (hl:l.length < 9223372036854775808):T2 72 [a] H = some (cnt l,H):=by
 obtain ⟨c,x,hx⟩:=fV (C:=X) (f:=72) (i:=0) rfl h (fF 1)
 unfold T2 Am
 rw [hx]
 simp [S1,S2,hl,aA,ids,cnt,wu,qP,tags,aU,dh,kG,ren,bn]
theorem Eu {H:AM.Heap} {a:AV} {l:List Int} (h:dP H a = some (.pi .i64 l)) (hl:l.length < 9223372036854775808):T2 67 [a] H = some (ckV l,H):=by
 obtain ⟨c,x,hx⟩:=fV (C:=X) (f:=67) (i:=0) rfl h (fF 1)
 unfold T2 Am
 rw [hx]
 simp [S2,hl,aA,ids,ckV,wu,qP,tags,aU,dh,kG,ren,bn]
theorem Ib {H:AM.Heap} {n:List Int} (hn:n.length = 16):T2 73 [.agg (.pi .i64 n)] H = some (.agg (.pi .i64 (dW n)),H):=by
 unfold T2 Am
 rw [lH (C:=X) (f:=73) (i:=0) rfl rfl (fF 1)]
 simp [S2,hn,aA,ids,wu,qP,tags,aU,dh,kG,ren,bn]
end Go.Proofs.Ytcllinmgllmpmaa
namespace Go.Proofs.Ytcllinmgllmpmaa
open Go.AM
def FW:Option AM.Obj:=some { p:=.pi .i64 [],g:=0,cap:=.none,z:=0,row:=true,ids:=false,tg:=0 }
def oh (k:Nat) (l:List Int):Option AM.Obj:=some { p:=.pi .i64 l,g:=0,cap:=some k,z:=1,row:=true,ids:=false,tg:=0 }
def pV:List Int→List Int→List Int
 | _,[]=>[]
 | next,x :: r=>if 0 < x then next.getD x.toNat 0 :: pV (next.set x.toNat (IntKind.i64.wrap (next.getD x.toNat 0 + 1))) r else -1 :: pV next r
def wX:List Int→List Int→List Int
 | next,[]=>next
 | next,x :: r=>if 0 < x then wX (next.set x.toNat (IntKind.i64.wrap (next.getD x.toNat 0 + 1))) r else wX next r
theorem zq:∀ (next l:List Int),(pV next l).length = l.length
 | _,[]=>rfl
 | next,x :: r=>by
  simp only [pV]
  split <;> simp [zq _ r]
def nR (l:List Int):List Int:=pV (dW (bf l).1) l
theorem set_mid (pre:List Int) (v w:Int) (n k:Nat) (h:k = pre.length):(pre ++ List.replicate (n + 1) v).set k w = (pre ++ [w]) ++ List.replicate n v:=by
 subst h
 rw [List.set_append_right _ _ (Nat.le_refl _),Nat.sub_self,List.replicate_succ,List.set_cons_zero]
 simp
def FX (c:Nat) (l:List Int) (i:Nat):AM.Frame:=[(8,.ptr 2 0 0 0),(9,.sl 3 0 l.length 0),(30,.ro c (.pi .i64 l) 1),(31,.int .i64 l.length),(32,.int .i64 (i:Nat))]
theorem PE (c:Nat) (l:List Int) (he:(jK l).2 = 0):∃ code,Try.f42.body = some code ∧
  Run X T2 42 0 code [(0,.ro c (.pi .i64 l) 1)] [] ⟨.ret,[(2,.sl 3 0 l.length 0),(3,.int .i64 0)],[FW,bx (bf l).1,nC (wX (dW (bf l).1) l),oh l.length (nR l)]⟩:=by
 have hce:(bf l).2 = 0:=by
  unfold jK at he
  split at he
  ·assumption
  ·rename_i h;exact absurd he h
 obtain ⟨anJ,hall⟩:=Pz hce
 have h63:l.length < 9223372036854775808:=by omega
 have hn:=jT l
 have hm1:(l.length:Int)≤9223372036854775807:=by omega
 have hm2:8 * (l.length:Int)≤140737488355328:=by omega
 have hT:=fun H=>Eu (H:=H) (a:=.ro c (.pi .i64 l) 1) rfl h63
 have hC:=fun H=>Ia (H:=H) (a:=.ro c (.pi .i64 l) 1) rfl h63
 have hF:=fun H=>Ib (H:=H) hn
 unfold ckV at hT
 unfold cnt at hC
 unfold nR
 rw [hce] at hC
 have hf:(dW (bf l).1).length = 17:=kY _ _ _ _
 generalize (bf l).1 = n at hn hC hF hf ⊢
 generalize dW n = NC at hF hf ⊢
 refine ⟨_,rfl,?_⟩
 apply Run.seq
 ·(refine ⟨0,?_⟩;conv=>lhs;simp (maxSteps:=2000000) -implicitDefEqProofs [-getElem?_pos,go_sem,eqV,ah,rowOf,bT])
 apply Run.seq
 ·(refine ⟨0,?_⟩;conv=>lhs;simp (maxSteps:=2000000) -implicitDefEqProofs [-getElem?_pos,go_sem,eqV,ah,hT,he])
 apply Run.seq
 ·(refine ⟨0,?_⟩;conv=>lhs;simp (maxSteps:=2000000) -implicitDefEqProofs [-getElem?_pos,go_sem,eqV,ah,hC,hn])
 apply Run.seq
 ·(refine ⟨0,?_⟩;conv=>lhs;simp (maxSteps:=2000000) -implicitDefEqProofs [-getElem?_pos,go_sem,eqV,ah,hF,hn,hf])
 apply Run.seq (fr':=[(0,.ro c (.pi .i64 l) 1),(8,.ptr 2 0 0 0),(9,.sl 3 0 l.length 0)]) (H':=[FW,bx n,nC NC,oh l.length (List.replicate l.length 0)])
 ·(refine ⟨0,?_⟩;simp (maxSteps:=2000000) -implicitDefEqProofs [-getElem?_pos,go_sem,eqV,ah,kV,oK,dZ,scalars,aA,ids,aU,rowOf,hm1,hm2,FW,bx,nC,oh])
 apply Run.seq (fr':=FX c l l.length ++ [(33,.bool false)]) (H':=[FW,bx n,nC (wX NC l),oh l.length (pV NC l)])
 ·apply Run.seq (fr':=FX c l 0) (H':=[FW,bx n,nC NC,oh l.length ([] ++ List.replicate l.length 0)])
  ·(refine ⟨0,?_⟩;simp (maxSteps:=2000000) -implicitDefEqProofs [-getElem?_pos,go_sem,eqV,ah,FX])
  ·apply Run.iP
   refine Run.qC (σ:=List Int × List Int × List Int × List Int) (fun s=>s.1.length = 17∧s.2.1.length = s.2.2.1.length∧s.2.2.1 ++ s.2.2.2 = l) (fun s=>FX c l s.2.2.1.length)
    (fun s=>[FW,bx n,nC s.1,oh l.length (s.2.1 ++ List.replicate s.2.2.2.length 0)])
    (fun s=>⟨.exit 0,FX c l l.length ++ [(33,.bool false)],[FW,bx n,nC (wX s.1 s.2.2.2),oh l.length (s.2.1 ++ pV s.1 s.2.2.2)]⟩) (fun s=>s.2.2.2.length) ?_ (NC,[],[],l) ⟨hf,rfl,rfl⟩
   rintro ⟨next,pre,done,todo⟩ ⟨hnx,hpre,hd⟩
   simp only at hnx hpre hd ⊢
   cases todo with
   | nil =>
    right
    have hlen:done.length = l.length:=by rw [← hd];simp
    refine ⟨?_,by simp⟩
    simp only [pV,wX,List.append_nil]
    apply Run.seq
    ·(refine ⟨0,?_⟩;conv=>lhs;simp (maxSteps:=2000000) -implicitDefEqProofs [-getElem?_pos,go_sem,eqV,ah,hlen,FX])
    ·apply Run.bH
     ·exact Run.cond (d:=false) rfl ⟨0,rfl⟩
     ·simp
   | cons x todo =>
    left
    have hlt:done.length < l.length:=by rw [← hd];simp
    have hget:l[done.length]? = some x:=by rw [← hd];simp
    have hx:=hall x (by rw [← hd];simp)
    have jU:(done.length:Int) < (l.length:Int):=by omega
    have e:IntKind.i64.wrap ((done.length:Int) + 1) = (done.length:Int) + 1:=wrap_i64 (by omega) (by omega)
    have hlp:done.length < (pre ++ List.replicate (todo.length + 1) (0:Int)).length:=by simp;omega
    have hset:∀ w,(pre ++ List.replicate (todo.length + 1) 0).set done.length w = (pre ++ [w]) ++ List.replicate todo.length 0:=fun w=>set_mid pre 0 w todo.length done.length hpre.symm
    generalize hP:pre ++ List.replicate (todo.length + 1) (0:Int) = P at hlp hset
    by_cases hx0:0 < x
    ·obtain ⟨v,hv⟩:∃ v,next[x.toNat]? = some v:=⟨next[x.toNat]'(by omega),List.getElem?_eq_getElem (by omega)⟩
     have agP:x < 17:=by omega
     have agQ:x.toNat < 17:=by omega
     refine ⟨(next.set x.toNat (IntKind.i64.wrap (v + 1)),pre ++ [v],done ++ [x],todo),⟨by simpa using hnx,by simpa using hpre,by simpa using hd⟩,?_,?_,by simp⟩
     ·apply Run.seq
      ·(refine ⟨0,?_⟩;conv=>lhs;simp (maxSteps:=2000000) -implicitDefEqProofs [-getElem?_pos,go_sem,eqV,ah,jU,FX])
      apply Run.seq
      ·exact Run.cond (d:=true) rfl ⟨0,rfl⟩
      apply Run.seq
      ·apply Run.block
       ·(refine ⟨0,?_⟩;conv=>lhs;simp (maxSteps:=2000000) -implicitDefEqProofs [-getElem?_pos,go_sem,eqV,ah,hget,hlt,FW,bx,nC,oh,hx0,hx.1,agP,agQ,hnx,hv,hlp])
       ·simp
      ·(refine ⟨0,?_⟩;simp (maxSteps:=2000000) -implicitDefEqProofs [-getElem?_pos,go_sem,eqV,ah,e,FX,FW,bx,nC,oh,hset])
     ·simp [pV,wX,hx0,List.getD_eq_getElem?_getD,hv]
    ·refine ⟨(next,pre ++ [-1],done ++ [x],todo),⟨hnx,by simpa using hpre,by simpa using hd⟩,?_,?_,by simp⟩
     ·apply Run.seq
      ·(refine ⟨0,?_⟩;conv=>lhs;simp (maxSteps:=2000000) -implicitDefEqProofs [-getElem?_pos,go_sem,eqV,ah,jU,FX])
      apply Run.seq
      ·exact Run.cond (d:=true) rfl ⟨0,rfl⟩
      apply Run.seq
      ·apply Run.block
       ·(refine ⟨0,?_⟩;conv=>lhs;simp (maxSteps:=2000000) -implicitDefEqProofs [-getElem?_pos,go_sem,eqV,ah,hget,hlt,FW,bx,nC,oh,hx0,hlp])
       ·simp
      ·(refine ⟨0,?_⟩;simp (maxSteps:=2000000) -implicitDefEqProofs [-getElem?_pos,go_sem,eqV,ah,e,FX,FW,bx,nC,oh,hset])
     ·simp [pV,wX,hx0]
 apply Run.seq
 ·(refine ⟨0,?_⟩;conv=>lhs;simp (maxSteps:=2000000) -implicitDefEqProofs [-getElem?_pos,go_sem,eqV,ah,FX])
 ·exact ⟨0,rfl⟩
end Go.Proofs.Ytcllinmgllmpmaa
namespace Go.Proofs.Ytcllinmgllmpmaa
open Go.AM
def flL:List Int:=List.replicate 144 8 ++ List.replicate 112 9 ++ List.replicate 24 7 ++ List.replicate 8 8
def flD:List Int:=List.replicate 32 5
def flO (l:List Int):AM.Obj:=⟨.pi .i64 l,0,.none,1,true,false,0⟩
def Wj:Row1:=⟨37,[],.tup [.sl 0 0 288 0,.sl 1 0 32 0],[some (flO flL),some (flO flD)]⟩
theorem Wn:kJ X (Wj :: []):=kJ.cons (EM kJ.nil) kJ.nil (n:=400) (by kernel_rfl)
theorem agS (H:AM.Heap):evT X 37 [] H = some (.tup [.sl H.length 0 288 0,.sl (H.length + 1) 0 32 0],H ++ [some (flO flL),some (flO flD)]):=by
 have:=dX (Ev1.frame (Wn Wj (List.mem_singleton.2 rfl)).1 rfl H)
 simpa [Wj,dh,kG,ren,aT,wI,flO,bn,Nat.add_comm] using this
theorem Q9 {H:AM.Heap} {a:AV} {l:List Int} (h:dP H a = some (.pi .i64 l)) (he:(jK l).2 = 0):evT X 42 [a] H = some (.tup [.sl H.length 0 l.length 0,.int .i64 0],H ++ [oh l.length (nR l)]):=by
 obtain ⟨c,x,hx⟩:=fV (C:=X) (f:=42) (i:=0) rfl h (fF 1)
 obtain ⟨code,hb,hr⟩:=PE c l he
 have:=Ev1.fresh (H:=H) (args:=[a]) (l:=[.sl 3 0 l.length 0,.int .i64 0]) (o:=3) (g:=0) zS Try.func42 hb hx rfl (by simp [dG]) hr (.inr rfl) rfl rfl rfl rfl rfl rfl rfl
 have:=dX this
 simpa [aO,eU,ren,bn,oh,AM.fresh] using this
def lcL:List Int:=nR flL
def dcL:List Int:=nR flD
theorem aat:(jK flL).2 = 0:=by kernel_rfl
theorem aau:(jK flD).2 = 0:=by kernel_rfl
theorem rZ:flL.length = 288:=by decide +kernel
theorem D8:flD.length = 32:=by decide +kernel
theorem vg (l:List Int):(nR l).length = l.length:=zq _ l
theorem wY:∀ n,n < 259→3≤n→(lenOf n).1≤285∧257≤(lenOf n).1∧(lenOf n).2.1≤n∧n < (lenOf n).2.1 + 2 ^ (lenOf n).2.2∧(lenOf n).2.2≤5:=by decide +kernel
theorem FY {per n:Nat}:∀ {f s base bits j:Nat},gOk per n f s base bits j = true→base≤n→base≤(gF per n f s base bits j).2.1∧(gF per n f s base bits j).2.1≤n∧n < (gF per n f s base bits j).2.1 + 2 ^ (gF per n f s base bits j).2.2
 | 0,_,_,_,_,h,_=>by cases h
 | f + 1,s,base,bits,j,h,hb=>by
  unfold gOk at h
  unfold gF
  split
  ·rename_i hj
   rw [if_pos hj] at h
   exact FY h hb
  ·rename_i hj
   rw [if_neg hj] at h
   split
   ·rename_i hn
    exact ⟨Nat.le_refl _,hb,hn⟩
   ·rename_i hn
    rw [if_neg hn] at h
    have:=FY h (by omega)
    exact ⟨Nat.le_trans (Nat.le_add_right _ _) this.1,this.2⟩
theorem AQ {n:Nat}:∀ {f bits j:Nat},j≤2→gOk 2 n f (2 * bits + 2 + j) ((2 + j) * 2 ^ bits + 1) bits j = true→∃ b j',j' < 2∧gF 2 n f (2 * bits + 2 + j) ((2 + j) * 2 ^ bits + 1) bits j = (2 * b + 2 + j',(2 + j') * 2 ^ b + 1,b)
 | 0,_,_,_,h=>by cases h
 | f + 1,bits,j,hj,h=>by
  unfold gOk at h
  unfold gF
  by_cases h2:j = 2
  ·subst h2
   rw [if_pos rfl] at h ⊢
   have e1:2 * bits + 2 + 2 = 2 * (bits + 1) + 2 + 0:=by omega
   have e2:(2 + 2) * 2 ^ bits + 1 = (2 + 0) * 2 ^ (bits + 1) + 1:=by rw [Nat.pow_succ];omega
   rw [e1,e2] at h ⊢
   exact AQ (by omega) h
  ·rw [if_neg h2] at h ⊢
   split
   ·exact ⟨bits,j,by omega,rfl⟩
   ·rename_i hn
    rw [if_neg hn] at h
    have e1:2 * bits + 2 + j + 1 = 2 * bits + 2 + (j + 1):=by omega
    have e2:(2 + j) * 2 ^ bits + 1 + 2 ^ bits = (2 + (j + 1)) * 2 ^ bits + 1:=by
     rw [show 2 + (j + 1) = (2 + j) + 1 by omega,Nat.succ_mul]
     omega
    rw [e1,e2] at h ⊢
    exact AQ (by omega) h
theorem wZ {n:Nat} (h1:1≤n) (h:n≤32768):(eH n).1≤29∧(eH n).2.1≤n∧n < (eH n).2.1 + 2 ^ (eH n).2.2∧(eH n).2.2≤13:=by
 unfold eH
 by_cases h4:n≤4
 ·rw [if_pos h4]
  simp
  omega
 ·rw [if_neg h4]
  obtain ⟨_,a2,a3⟩:=FY (JX h) (by omega)
  obtain ⟨b,j,hj,he⟩:=AQ (n:=n) (f:=40) (bits:=1) (j:=0) (by omega) (JX h)
  have he':gF 2 n 40 4 5 1 0 = (2 * b + 2 + j,(2 + j) * 2 ^ b + 1,b):=he
  rw [he'] at a2 a3 ⊢
  simp only at a2 a3 ⊢
  have hb:b≤13:=by
   refine Classical.byContradiction fun hc=>?_
   have hp:2 ^ 14≤2 ^ b:=Nat.pow_le_pow_right (by omega) (by omega)
   have:2 * 2 ^ b≤(2 + j) * 2 ^ b:=Nat.mul_le_mul_right _ (by omega)
   omega
  exact ⟨by omega,a2,a3,hb⟩
end Go.Proofs.Ytcllinmgllmpmaa
namespace Go.Proofs.Ytcllinmgllmpmaa
open Go.AM
theorem CJ:∀ y,y < 288→0≤flL.getD y 0∧flL.getD y 0≤9:=by decide +kernel
theorem PG:∀ y,y < 32→0≤flD.getD y 0∧flD.getD y 0≤9:=by decide +kernel
theorem su {l:List Int} {y:Nat} (h:y < l.length):l[y]? = some (l.getD y 0):=by
 rw [List.getD_eq_getElem?_getD,List.getElem?_eq_getElem h];rfl
def jL (s:Ws) (cs ls:List Int) (y:Nat):Ws:=sD s (cs.getD y 0) (ls.getD y 0).toNat
def pxW (s:Ws) (x:Px):Ws :=
 if x.len = 0 then jL s lcL flL x.byte.toNat else
  dn (jL (dn (jL s lcL flL (lenOf x.len.toNat).1) (x.len - ((lenOf x.len.toNat).2.1:Nat)) (lenOf x.len.toNat).2.2) dcL flD (eH x.dist.toNat).1) (x.dist - ((eH x.dist.toNat).2.1:Nat)) (eH x.dist.toNat).2.2
def GL (l:List Px):Ws:=jL (l.foldl pxW (dn (dn ⟨0,[]⟩ 1 1) 1 2)) lcL flL 256
def oq (l:List Px):List UInt8 × Int:=if (jX l []).2 ≠ 0 then ([],(jX l []).2) else ((GL l).o,0)
structure FxV (E:AM.Heap) (o6 o7 o8 o10 o12:Nat) (oa:Option Nat) (s:Ws):Prop where
 r6:E[o6]? = some (some (flO flL))
 r7:E[o7]? = some (some (flO flD))
 r8:E[o8]? = some (oh 288 lcL)
 r10:E[o10]? = some (oh 32 dcL)
 wr:WrV 0 E o12 oa s
 lt:o6 < o12∧o7 < o12∧o8 < o12∧o10 < o12
 oa:∀ a,oa = some a→o12 < a
 ok:jM s
section
variable {E:AM.Heap} {o6 o7 o8 o10 o12:Nat} {oa:Option Nat} {s:Ws}
theorem WrV.lt' (h:WrV 0 E o12 oa s):o12 < E.length:=h.lt.1
theorem FxV.step {E':AM.Heap} {oa':Option Nat} {s':Ws} (h:FxV E o6 o7 o8 o10 o12 oa s) (hw:WrV 0 E' o12 oa' s') (hk:Kpw E E' o12 oa oa') (hok:jM s'):FxV E' o6 o7 o8 o10 o12 oa' s':=by
 obtain ⟨l6,l7,l8,l10⟩:=h.lt
 have hl:=h.wr.lt'
 have keep:∀ j,j < o12→E'[j]? = E[j]?:=fun j hj=>hk.rest j (by omega) (by omega) fun a ha=>by have:=h.oa a ha;omega
 refine ⟨by rw [keep _ l6];exact h.r6,by rw [keep _ l7];exact h.r7,by rw [keep _ l8];exact h.r8,by rw [keep _ l10];exact h.r10,hw,h.lt,?_,hok⟩
 intro a ha
 cases hq:oa with
 | none=>have:=hk.new a hq ha;omega
 | some z =>
  have:=hk.same z hq
  rw [ha] at this
  cases this
  exact h.oa _ hq
theorem FxV.cat (r:AM.Heap) (h:FxV E o6 o7 o8 o10 o12 oa s):FxV (E ++ r) o6 o7 o8 o10 o12 oa s:=by
 obtain ⟨l6,l7,l8,l10⟩:=h.lt
 have hl:=h.wr.lt'
 have keep:∀ j,j < o12→(E ++ r)[j]? = E[j]?:=fun j hj=>List.getElem?_append_left (by omega)
 exact ⟨by rw [keep _ l6];exact h.r6,by rw [keep _ l7];exact h.r7,by rw [keep _ l8];exact h.r8,by rw [keep _ l10];exact h.r10,h.wr.cat,h.lt,h.oa,h.ok⟩
def ou (o6 o7 o8 o10 o12 c:Nat) (l:List Px) (i:Nat):AM.Frame:=[(6,.sl o6 0 288 0),(7,.sl o7 0 32 0),(8,.sl o8 0 288 0),(10,.sl o10 0 32 0),(12,.ptr o12 0 0 0),(46,.ro c (.pr 3 (l.map pxR)) 1),(47,.int .i64 (l.length:Nat)),(48,.int .i64 (i:Nat))]
def xZ (o6 o7 o8 o10 o12 q c:Nat) (l:List Px) (i:Nat):AM.Frame:=[(6,.sl o6 0 288 0),(7,.sl o7 0 32 0),(8,.sl o8 0 288 0),(10,.sl o10 0 32 0),(12,.ptr o12 0 0 0),(14,.ptr q 0 0 0),(46,.ro c (.pr 3 (l.map pxR)) 1),(47,.int .i64 (l.length:Nat)),(48,.int .i64 (i:Nat))]
theorem kD {cs ls:List Int} {y:Nat} (h:jM s):jM (jL s cs ls y)∧(jL s cs ls y).k = s.k + (ls.getD y 0).toNat:=FZ _ h
theorem aav {m i q c:Nat} {x:Px} {l:List Px} {tl:AM.Frame} (h:FxV E o6 o7 o8 o10 o12 oa s) (hl:s.k≤7000000) (hq:E[q]? = some (some (pxO x))):∃ E' oa',FxV E' o6 o7 o8 o10 o12 oa' (jL s lcL flL x.byte.toNat)∧Kpw E E' o12 oa oa'∧∃ code,((Try.f26.body).bind (aI [1,1,1,1,1,1,1,1,0,1,0,0,1,1,0,0,1,0,1,0,0])) = some code∧Run X (evT X) 26 m code (xZ o6 o7 o8 o10 o12 q c l i ++ tl) E ⟨.normal,ou o6 o7 o8 o10 o12 c l i,E'⟩:=by
 have hy:=x.byte.toNat_lt
 have hy2:x.byte.toNat < 288:=by omega
 obtain ⟨n0,n9⟩:=CJ _ hy2
 have hc:=su (l:=lcL) (y:=x.byte.toNat) (by unfold lcL;rw [vg,rZ];exact hy2)
 have hf:=su (l:=flL) (y:=x.byte.toNat) (by rw [rZ];exact hy2)
 obtain ⟨E',oa',g1,g2,g3⟩:=AU (x:=lcL.getD x.byte.toNat 0) (I:=flL.getD x.byte.toNat 0) (n:=(flL.getD x.byte.toNat 0).toNat) (by omega) h.wr h.ok (by omega) (by omega)
 have hs:=kD (cs:=lcL) (ls:=flL) (y:=x.byte.toNat) h.ok
 refine ⟨E',oa',h.step g2 g3 hs.1,g3,_,rfl,?_⟩
 have q6:=h.r6;have q8:=h.r8
 have hyI:(x.byte.toNat:Int) < 288:=by omega
 simp only [flO,oh,pxO,pxR] at q6 q8 hq
 simp only [xZ,ou]
 generalize lcL.getD x.byte.toNat 0 = v1 at *
 generalize flL.getD x.byte.toNat 0 = v2 at *
 generalize l.map pxR = R at *
 generalize l.length = N at *
 generalize lcL = LC at *
 generalize flL = LL at *
 (refine ⟨0,?_⟩;simp (maxSteps:=2000000) -implicitDefEqProofs [-getElem?_pos,go_sem,eqV,ah,retag,q6,q8,hq,hyI,hy2,hc,hf,g1])
end
end Go.Proofs.Ytcllinmgllmpmaa
namespace Go.Proofs.Ytcllinmgllmpmaa
open Go.AM
def ND (o6 o7 o8 o10 o12 q u v w c:Nat) (l:List Px) (i:Nat):AM.Frame:=[(6,.sl o6 0 288 0),(7,.sl o7 0 32 0),(8,.sl o8 0 288 0),(10,.sl o10 0 32 0),(12,.ptr o12 0 0 0),(14,.ptr q 0 0 0),(15,.int .i64 (u:Nat)),(16,.int .i64 (v:Nat)),(17,.int .i64 (w:Nat)),(46,.ro c (.pr 3 (l.map pxR)) 1),(47,.int .i64 (l.length:Nat)),(48,.int .i64 (i:Nat))]
def NG (o6 o7 o8 o10 o12 q v w c:Nat) (l:List Px) (i:Nat):AM.Frame:=[(6,.sl o6 0 288 0),(7,.sl o7 0 32 0),(8,.sl o8 0 288 0),(10,.sl o10 0 32 0),(12,.ptr o12 0 0 0),(14,.ptr q 0 0 0),(16,.int .i64 (v:Nat)),(17,.int .i64 (w:Nat)),(46,.ro c (.pr 3 (l.map pxR)) 1),(47,.int .i64 (l.length:Nat)),(48,.int .i64 (i:Nat))]
section
variable {E:AM.Heap} {o6 o7 o8 o10 o12:Nat} {oa:Option Nat} {s:Ws}
theorem aaw {m i q c n:Nat} {x:Px} {l:List Px} {tl:AM.Frame} (hn:x.len = (n:Nat)) (PI:n≤258) (hq:E[q]? = some (some (pxO x))):∃ code,((Try.f26.body).bind (aI [1,1,1,1,1,1,1,1,0,1,0,0,1,1,0,0,1,1,0])) = some code∧Run X (evT X) 26 m code (xZ o6 o7 o8 o10 o12 q c l i ++ tl) E ⟨.normal,ND o6 o7 o8 o10 o12 q (lenOf n).1 (lenOf n).2.1 (lenOf n).2.2 c l i,E⟩:=by
 refine ⟨_,rfl,?_⟩
 have hL:=TY (H:=E) PI
 simp only [pxO,pxR,hn] at hq
 simp only [xZ,ND]
 generalize lenOf n = R3 at *
 generalize l.map pxR = R at *
 generalize l.length = N at *
 (refine ⟨0,?_⟩;simp (maxSteps:=2000000) -implicitDefEqProofs [-getElem?_pos,go_sem,eqV,ah,hq,hL,ak])
theorem aax {m i q c n:Nat} {x:Px} {l:List Px} (hn:x.dist = (n:Nat)) (h1:1≤n) (h2:n≤32768) (hq:E[q]? = some (some (pxO x))):∃ code,((Try.f26.body).bind (aI [1,1,1,1,1,1,1,1,0,1,0,0,1,1,0,0,1,1,1,1,1,0])) = some code∧Run X (evT X) 26 m code (xZ o6 o7 o8 o10 o12 q c l i) E ⟨.normal,ND o6 o7 o8 o10 o12 q (eH n).1 (eH n).2.1 (eH n).2.2 c l i,E⟩:=by
 refine ⟨_,rfl,?_⟩
 have hL:=Nw (H:=E) h1 h2
 simp only [pxO,pxR,hn] at hq
 simp only [xZ,ND]
 generalize eH n = R3 at *
 generalize l.map pxR = R at *
 generalize l.length = N at *
 (refine ⟨0,?_⟩;simp (maxSteps:=2000000) -implicitDefEqProofs [-getElem?_pos,go_sem,eqV,ah,hq,hL,ak])
theorem aay {m i q u v w c:Nat} {l:List Px} (h:FxV E o6 o7 o8 o10 o12 oa s) (hl:s.k≤7000000) (hu:u < 288):∃ E' oa',FxV E' o6 o7 o8 o10 o12 oa' (jL s lcL flL u)∧Kpw E E' o12 oa oa'∧∃ code,((Try.f26.body).bind (aI [1,1,1,1,1,1,1,1,0,1,0,0,1,1,0,0,1,1,1,0])) = some code∧Run X (evT X) 26 m code (ND o6 o7 o8 o10 o12 q u v w c l i) E ⟨.normal,NG o6 o7 o8 o10 o12 q v w c l i,E'⟩:=by
 obtain ⟨n0,n9⟩:=CJ _ hu
 have hc:=su (l:=lcL) (y:=u) (by unfold lcL;rw [vg,rZ];exact hu)
 have hf:=su (l:=flL) (y:=u) (by rw [rZ];exact hu)
 obtain ⟨E',oa',g1,g2,g3⟩:=AU (x:=lcL.getD u 0) (I:=flL.getD u 0) (n:=(flL.getD u 0).toNat) (by omega) h.wr h.ok (by omega) (by omega)
 have hs:=kD (cs:=lcL) (ls:=flL) (y:=u) h.ok
 refine ⟨E',oa',h.step g2 g3 hs.1,g3,_,rfl,?_⟩
 have q6:=h.r6;have q8:=h.r8
 have huI:(u:Int) < 288:=by omega
 simp only [flO,oh] at q6 q8
 simp only [ND,NG]
 generalize lcL.getD u 0 = v1 at *
 generalize flL.getD u 0 = v2 at *
 generalize l.map pxR = R at *
 generalize l.length = N at *
 generalize lcL = LC at *
 generalize flL = LL at *
 (refine ⟨0,?_⟩;simp (maxSteps:=2000000) -implicitDefEqProofs [-getElem?_pos,go_sem,eqV,ah,retag,q6,q8,huI,hu,hc,hf,g1])
theorem aaz {m i q u v w c:Nat} {l:List Px} (h:FxV E o6 o7 o8 o10 o12 oa s) (hl:s.k≤7000000) (hu:u < 32):∃ E' oa',FxV E' o6 o7 o8 o10 o12 oa' (jL s dcL flD u)∧Kpw E E' o12 oa oa'∧∃ code,((Try.f26.body).bind (aI [1,1,1,1,1,1,1,1,0,1,0,0,1,1,0,0,1,1,1,1,1,1,0])) = some code∧Run X (evT X) 26 m code (ND o6 o7 o8 o10 o12 q u v w c l i) E ⟨.normal,NG o6 o7 o8 o10 o12 q v w c l i,E'⟩:=by
 obtain ⟨n0,n9⟩:=PG _ hu
 have hc:=su (l:=dcL) (y:=u) (by unfold dcL;rw [vg,D8];exact hu)
 have hf:=su (l:=flD) (y:=u) (by rw [D8];exact hu)
 obtain ⟨E',oa',g1,g2,g3⟩:=AU (x:=dcL.getD u 0) (I:=flD.getD u 0) (n:=(flD.getD u 0).toNat) (by omega) h.wr h.ok (by omega) (by omega)
 have hs:=kD (cs:=dcL) (ls:=flD) (y:=u) h.ok
 refine ⟨E',oa',h.step g2 g3 hs.1,g3,_,rfl,?_⟩
 have q6:=h.r7;have q8:=h.r10
 have huI:(u:Int) < 32:=by omega
 simp only [flO,oh] at q6 q8
 simp only [ND,NG]
 generalize dcL.getD u 0 = v1 at *
 generalize flD.getD u 0 = v2 at *
 generalize l.map pxR = R at *
 generalize l.length = N at *
 generalize dcL = LC at *
 generalize flD = LL at *
 (refine ⟨0,?_⟩;simp (maxSteps:=2000000) -implicitDefEqProofs [-getElem?_pos,go_sem,eqV,ah,retag,q6,q8,huI,hu,hc,hf,g1])
theorem aaA {m i q v w c n:Nat} {x:Px} {l:List Px} (h:FxV E o6 o7 o8 o10 o12 oa s) (hl:s.k≤7000000) (hn:x.len = (n:Nat)) (hn2:n≤100000) (hv:v≤n) (hw:w≤60) (hq:E[q]? = some (some (pxO x))):∃ E' oa',FxV E' o6 o7 o8 o10 o12 oa' (dn s (x.len - (v:Nat)) w)∧Kpw E E' o12 oa oa'∧∃ code,((Try.f26.body).bind (aI [1,1,1,1,1,1,1,1,0,1,0,0,1,1,0,0,1,1,1,1,0])) = some code∧Run X (evT X) 26 m code (NG o6 o7 o8 o10 o12 q v w c l i) E ⟨.normal,xZ o6 o7 o8 o10 o12 q c l i,E'⟩:=by
 obtain ⟨E',oa',g1,g2,g3⟩:=oz (x:=x.len - (v:Nat)) (I:=(w:Nat)) (n:=w) rfl h.wr h.ok (by omega) hw
 refine ⟨E',oa',h.step g2 g3 (dR h.ok w).1,g3,_,rfl,?_⟩
 rw [hn] at g1
 have w1:IntKind.i64.wrap ((n:Int) - (v:Int)) = (n:Int) - (v:Int):=by rw [wrap_i64 (by omega) (by omega)]
 simp only [pxO,pxR,hn] at hq
 simp only [NG,xZ]
 generalize l.map pxR = R at *
 generalize l.length = N at *
 (refine ⟨0,?_⟩;simp (maxSteps:=2000000) -implicitDefEqProofs [-getElem?_pos,go_sem,eqV,ah,hq,w1,g1])
theorem aaB {m i q v w c n:Nat} {x:Px} {l:List Px} (h:FxV E o6 o7 o8 o10 o12 oa s) (hl:s.k≤7000000) (hn:x.dist = (n:Nat)) (hn2:n≤100000) (hv:v≤n) (hw:w≤60) (hq:E[q]? = some (some (pxO x))):∃ E' oa',FxV E' o6 o7 o8 o10 o12 oa' (dn s (x.dist - (v:Nat)) w)∧Kpw E E' o12 oa oa'∧∃ code,((Try.f26.body).bind (aI [1,1,1,1,1,1,1,1,0,1,0,0,1,1,0,0,1,1,1,1,1,1,1])) = some code∧Run X (evT X) 26 m code (NG o6 o7 o8 o10 o12 q v w c l i) E ⟨.normal,ou o6 o7 o8 o10 o12 c l i,E'⟩:=by
 obtain ⟨E',oa',g1,g2,g3⟩:=oz (x:=x.dist - (v:Nat)) (I:=(w:Nat)) (n:=w) rfl h.wr h.ok (by omega) hw
 refine ⟨E',oa',h.step g2 g3 (dR h.ok w).1,g3,_,rfl,?_⟩
 rw [hn] at g1
 have w1:IntKind.i64.wrap ((n:Int) - (v:Int)) = (n:Int) - (v:Int):=by rw [wrap_i64 (by omega) (by omega)]
 simp only [pxO,pxR,hn] at hq
 simp only [NG,ou]
 generalize l.map pxR = R at *
 generalize l.length = N at *
 (refine ⟨0,?_⟩;simp (maxSteps:=2000000) -implicitDefEqProofs [-getElem?_pos,go_sem,eqV,ah,hq,w1,g1])
end
end Go.Proofs.Ytcllinmgllmpmaa
