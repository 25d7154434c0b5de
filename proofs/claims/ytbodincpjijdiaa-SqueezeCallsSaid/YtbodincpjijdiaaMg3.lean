/- E8 to ED: texts of this claim, one behind the other; what each shows stands at its head. -/
import Derived.Test.YtbodincpjijdiaaAm4
import Derived.Test.YtbodincpjijdiaaMg2
set_option linter.unusedSimpArgs false
set_option linter.unusedVariables false
set_option maxRecDepth 100000
set_option maxHeartbeats 8000000
namespace Go.Proofs.Ytbodincpjijdiaa
open Go.AM
section
variable {c:Nat} {l:List Px}
theorem JM {m:Nat} (hl:l.length≤2000):∃ code,Try.f52.body = some code∧aj (jV (exX l)) X (evT X) 52 m code [(0,.ro c (.pr 3 (l.map pxR)) 1)] []:=by
 refine ⟨_,rfl,?_⟩
 apply aj.seq (fr':=[(0,.ro c (.pr 3 (l.map pxR)) 1)]) (H':=[some (⟨.pb [],0,none,0,true,false,0⟩:AM.Obj)])
 ·generalize l.map pxR = R at *
  (refine ⟨0,?_⟩;simp (maxSteps:=2000000) -implicitDefEqProofs [-getElem?_pos,go_sem,eqV,ah,ak,rowOf,oP])
 apply aj.seq (fr':=[(0,.ro c (.pr 3 (l.map pxR)) 1),(4,.sl 1 0 0 0)]) (H':=[some (⟨.pb [],0,none,0,true,false,0⟩:AM.Obj),some (⟨.pb [],0,none,0,true,false,0⟩:AM.Obj)])
 ·generalize l.map pxR = R at *
  (refine ⟨0,?_⟩;simp (maxSteps:=2000000) -implicitDefEqProofs [-getElem?_pos,go_sem,eqV,ah,ak,rowOf,oP])
 have hE:([some (⟨.pb [],0,none,0,true,false,0⟩:AM.Obj),some (⟨.pb [],0,none,0,true,false,0⟩:AM.Obj)]:AM.Heap)[1]? = some (some ⟨.pb [],0,none,0,true,false,0⟩):=rfl
 generalize [some (⟨.pb [],0,none,0,true,false,0⟩:AM.Obj),some (⟨.pb [],0,none,0,true,false,0⟩:AM.Obj)] = E0 at *
 apply aj.assoc
 apply aj.seq (fr':=mX (.sl 1 0 0 0) c l 0) (H':=E0)
 ·have hll:(l.map pxR).length = l.length:=by simp
  simp only [mX]
  generalize l.map pxR = R at *
  generalize l.length = N at *
  (refine ⟨0,?_⟩;simp (maxSteps:=2000000) -implicitDefEqProofs [-getElem?_pos,go_sem,eqV,ah,hll])
 refine aj.EL (P:=fun fr E=>∃ o g ob,iy l [] = (o,0)∧au fr 4 = .sl 1 0 o.length g∧E[1]? = some (some ob)∧Rw (.pb o) g ob) ?_ ?_
 ·refine aj.kJ (I:=fun k fr E'=>∃ i o g ob,i≤l.length∧k = l.length - i∧fr = mX (.sl 1 0 o.length g) c l i∧E'[1]? = some (some ob)∧Rw (.pb o) g ob∧o.length≤258 * i∧iy (l.drop i) o = iy l []) ?_ (k:=l.length) ⟨0,[],0,_,by omega,rfl,rfl,hE,⟨rfl,rfl,rfl,rfl,rfl⟩,by simp,rfl⟩
  rintro k fr E' ⟨i,o,g,ob,hi,rfl,rfl,ho,hw,hol,he⟩
  by_cases hin:i = l.length
  ·rw [List.drop_of_length_le (by omega),iy] at he
   refine aj.of (o:=⟨.exit 0,mX (.sl 1 0 o.length g) c l i ++ [(10,.bool false)],E'⟩) ?_ (.inr ⟨by simp,.inl ⟨rfl,o,g,ob,he.symm,by simp [mX,au],ho,hw⟩⟩)
   subst hin
   refine ⟨0,?_⟩
   simp only [mX]
   generalize l.map pxR = R at *
   generalize l.length = N at *
   generalize o.length = K at *
   simp (maxSteps:=2000000) -implicitDefEqProofs [-getElem?_pos,go_sem,eqV,ah]
  ·have hlt:i < l.length:=by omega
   have iT:(i:Int) < (l.length:Int):=by omega
   obtain ⟨x,hx⟩:∃ x,l[i]? = some x:=⟨_,List.getElem?_eq_getElem hlt⟩
   apply aj.seq (fr':=mX (.sl 1 0 o.length g) c l i ++ [(10,.bool true)]) (H':=E')
   ·simp only [mX]
    generalize l.map pxR = R at *
    generalize l.length = N at *
    generalize o.length = K at *
    (refine ⟨0,?_⟩;simp (maxSteps:=2000000) -implicitDefEqProofs [-getElem?_pos,go_sem,eqV,ah,iT,hlt])
   apply aj.seq (fr':=mX (.sl 1 0 o.length g) c l i ++ [(10,.bool true)]) (H':=E')
   ·exact Run.cond (d:=true) (by simp [mX,aC,au]) ⟨0,rfl⟩
   refine (piece (Uj (m:=m) (c:=c) hx hl ho hw hol he) _ rfl).mono ?_
   rintro out (⟨h1,o',g',ob',h2,h3,h4,h5,h6⟩ | ⟨h1,h2⟩)
   ·exact .inl ⟨h1,l.length - (i + 1),by omega,i + 1,o',g',ob',by omega,rfl,h2,h3,h4,h5,h6⟩
   ·exact .inr ⟨by rw [h1];simp,.inr ⟨h1,h1,h2⟩⟩
 ·rintro fr E' ⟨o,g,ob,he,h4,ho,hw⟩
  refine aj.of (o:=⟨.ret,[(2,.sl 1 0 o.length g),(3,.int .i64 0)],E'⟩) ?_ ⟨rfl,o,0,1,g,ob,he,rfl,rfl,ho,hw⟩
  refine ⟨0,?_⟩
  generalize o.length = K at *
  simp (maxSteps:=2000000) -implicitDefEqProofs [-getElem?_pos,go_sem,eqV,ah,h4,ak]
theorem OC {H:AM.Heap} {a:AV} (ha:gq H a = some (.pr 3 (l.map pxR))) (hl:l.length≤2000):∃ ob,Rw (.pb (iy l []).1) 0 ob∧evT X 52 [a] H = some (.tup [.sl H.length 0 (iy l []).1.length 0,.int .i64 (iy l []).2],H ++ [some ob]):=by
 obtain ⟨c,x,hx⟩:=dS (C:=X) (f:=52) (i:=0) rfl ha (bU 1)
 obtain ⟨code,hc,⟨out,⟨ho,o,e,a2,g,ob,h1,h2,h3,h4,hw⟩,hrun⟩⟩:=JM (m:=0) (c:=c) (l:=l) hl
 rw [h1]
 obtain ⟨ob',q1,q2⟩:=Ev1.wZ (C:=X) (H:=H) (bn X) (n:=o.length) (l:=o) (rest:=[.int .i64 e]) Try.func52 hc hx rfl (by simp [bW]) rfl rfl rfl (by
  rw [Za]
  refine ⟨out,⟨ho,a2,g,ob,?_,h4,hw⟩,hrun⟩
  show aQ X out.fr out.H [.tmp 2,.tmp 3] = _
  simp [aQ,h2,h3])
 exact ⟨ob',q1,dA (by simpa [aO,fU] using q2)⟩
end
end Go.Proofs.Ytbodincpjijdiaa
namespace Go.Proofs.Ytbodincpjijdiaa
open Go.AM
def gF (per n:Nat):Nat→Nat→Nat→Nat→Nat→Nat × Nat × Nat
 | 0,s,base,bits,_=>(s,base,bits)
 | f + 1,s,base,bits,j=>if j = per then gF per n f s base (bits + 1) 0 else if n < base + 2 ^ bits then (s,base,bits) else gF per n f (s + 1) (base + 2 ^ bits) bits (j + 1)
def gOk (per n:Nat):Nat→Nat→Nat→Nat→Nat→Bool
 | 0,_,_,_,_=>false
 | f + 1,s,base,bits,j=>if j = per then gOk per n f s base (bits + 1) 0 else if n < base + 2 ^ bits then true else gOk per n f (s + 1) (base + 2 ^ bits) bits (j + 1)
def dJ (n s base bits:Nat):AM.Frame:=[(0,.int .i64 (n:Nat)),(2,.int .i64 (s:Nat)),(3,.int .i64 (base:Nat)),(4,.int .i64 (bits:Nat))]
theorem Sr {bits:Nat} (h:bits≤40):IntKind.i64.wrap (2 ^ min bits 64) = ((2 ^ bits:Nat):Int):=by
 rw [Nat.min_eq_left (by omega)]
 have h1:2 ^ bits≤2 ^ 40:=Nat.pow_le_pow_right (by omega) h
 have h2:(2:Int) ^ bits = ((2 ^ bits:Nat):Int):=by push_cast;rfl
 rw [h2]
 generalize 2 ^ bits = u at *
 exact wrap_i64 (by omega) (by omega)
theorem U4 {m n s base bits j:Nat} {E:AM.Heap} (hn:n≤100000) (hs:s≤1000) (vg:bits≤40) (hb:base≤n + 100000) (hj:j < 4) :
  ∃ code,((Try.f57.body).bind (aF [1,1,1,1,1,0,0,0,0,1,0,0,1,1])) = some code∧Run X (evT X) 57 m code (dJ n s base bits ++ [(15,.int .i64 (j:Nat)),(16,.bool true)]) E (if n < base + 2 ^ bits then ⟨.ret,[(2,.int .i64 (s:Nat)),(3,.int .i64 (base:Nat)),(4,.int .i64 (bits:Nat))],E⟩ else ⟨.normal,dJ n (s + 1) (base + 2 ^ bits) bits ++ [(15,.int .i64 (j + 1:Nat))],E⟩):=by
 refine ⟨_,rfl,?_⟩
 have h1:2 ^ bits≤2 ^ 40:=Nat.pow_le_pow_right (by omega) vg
 have hp:=Sr vg
 generalize 2 ^ bits = pw at *
 have hb0:¬ (bits:Int) < 0:=by omega
 have w1:IntKind.i64.wrap ((base:Int) + ((pw:Nat):Int)) = ((base + pw:Nat):Int):=by rw [wrap_i64 (by omega) (by omega)];omega
 have w2:IntKind.i64.wrap ((s:Int) + 1) = ((s + 1:Nat):Int):=by rw [wrap_i64 (by omega) (by omega)];omega
 have w3:IntKind.i64.wrap ((j:Int) + 1) = ((j + 1:Nat):Int):=by rw [wrap_i64 (by omega) (by omega)];omega
 by_cases h:n < base + pw
 ·rw [if_pos h]
  have hI:(n:Int) < ((base + pw:Nat):Int):=by omega
  generalize base + pw = nb at *
  refine Run.bH ?_ (by simp)
  refine Run.block ?_ (by simp)
  refine Run.bH ?_ (by simp)
  apply Run.seq (fr':=dJ n s base bits ++ [(15,.int .i64 (j:Nat)),(22,.bool true)]) (H':=E)
  ·simp only [dJ]
   (refine ⟨0,?_⟩;simp (maxSteps:=2000000) -implicitDefEqProofs [-getElem?_pos,go_sem,eqV,ah,hp,hb0,w1,hI,h])
  refine Run.cond (d:=true) (by simp [dJ,aC,au]) ?_
  apply Run.seq (fr':=[(2,.int .i64 (s:Nat)),(3,.int .i64 (base:Nat)),(4,.int .i64 (bits:Nat))]) (H':=E)
  ·simp only [dJ]
   (refine ⟨0,?_⟩;simp (maxSteps:=2000000) -implicitDefEqProofs [-getElem?_pos,go_sem,eqV,ah,ak])
  ·exact ⟨0,rfl⟩
 ·rw [if_neg h]
  have hI:¬ (n:Int) < ((base + pw:Nat):Int):=by omega
  generalize base + pw = nb at *
  generalize s + 1 = s1 at *
  generalize j + 1 = j1 at *
  apply Run.seq (fr':=dJ n s1 nb bits ++ [(15,.int .i64 (j:Nat))]) (H':=E)
  ·refine Run.block ?_ (by simp)
   apply Run.seq (fr':=dJ n s base bits ++ [(15,.int .i64 (j:Nat)),(22,.bool false)]) (H':=E)
   ·apply Run.seq (fr':=dJ n s base bits ++ [(15,.int .i64 (j:Nat)),(22,.bool false)]) (H':=E)
    ·simp only [dJ]
     (refine ⟨0,?_⟩;simp (maxSteps:=2000000) -implicitDefEqProofs [-getElem?_pos,go_sem,eqV,ah,hp,hb0,w1,hI,h])
    ·exact Run.cond (d:=false) (by simp [dJ,aC,au]) ⟨0,rfl⟩
   ·simp only [dJ]
    (refine ⟨0,?_⟩;simp (maxSteps:=2000000) -implicitDefEqProofs [-getElem?_pos,go_sem,eqV,ah,hp,hb0,w1,w2,ak])
  ·simp only [dJ]
   (refine ⟨0,?_⟩;simp (maxSteps:=2000000) -implicitDefEqProofs [-getElem?_pos,go_sem,eqV,ah,w3])
def lnR (R:Nat × Nat × Nat):AM.Frame:=[(2,.int .i64 (R.1:Nat)),(3,.int .i64 (R.2.1:Nat)),(4,.int .i64 (R.2.2:Nat))]
theorem abd {m n s base bits f:Nat} {R:Nat × Nat × Nat} {E:AM.Heap} (hn:n≤100000) (hs:s + f≤900) (vg:bits + f≤41) (hb:base≤n + 100000) (hok:gOk 4 n f s base bits 0 = true) (hR:gF 4 n f s base bits 0 = R) :
  ∃ code,((Try.f57.body).bind (aF [1,1,1,1,1,0,0,0,0,1])) = some code∧aj (fun o=>(o.ex = .normal∧o.H = E∧∃ s' base' f',f' < f∧s' + f'≤900∧bits + 1 + f'≤41∧base'≤n + 100000∧bY [0,2,3,4] o.fr = dJ n s' base' bits∧gOk 4 n f' s' base' (bits + 1) 0 = true∧gF 4 n f' s' base' (bits + 1) 0 = R)∨(o.ex = .ret∧o.fr = lnR R∧o.H = E)) X (evT X) 57 m code (dJ n s base bits ++ [(15,.int .i64 (0:Nat))]) E:=by
 refine ⟨_,rfl,?_⟩
 refine aj.mono (aj.NP (P:=fun fr H=>H = E∧∃ s' base' f',f' < f∧s' + f'≤900∧bits + 1 + f'≤41∧base'≤n + 100000∧bY [0,2,3,4] fr = dJ n s' base' bits∧gOk 4 n f' s' base' (bits + 1) 0 = true∧gF 4 n f' s' base' (bits + 1) 0 = R) (Q:=fun o=>o.ex = .ret∧o.fr = lnR R∧o.H = E) ?_) ?_
 ·refine aj.kJ (I:=fun k fr H=>∃ s' base' j,k≤f∧s' + k≤900∧base'≤n + 100000∧j≤4∧fr = dJ n s' base' bits ++ [(15,.int .i64 (j:Nat))]∧H = E∧gOk 4 n k s' base' bits j = true∧gF 4 n k s' base' bits j = R) ?_ (k:=f) ⟨s,base,0,by omega,hs,hb,by omega,rfl,rfl,hok,hR⟩
  rintro k fr H ⟨s',base',j,hk,hsk,hb',hj,rfl,rfl,hok',hR'⟩
  cases k with
  | zero=>simp [gOk] at hok'
  | succ k =>
   rw [gOk] at hok'
   rw [gF] at hR'
   by_cases hj4:j = 4
   ·subst hj4
    rw [if_pos rfl] at hok' hR'
    refine aj.of (o:=⟨.exit 2,dJ n s' base' bits ++ [(15,.int .i64 (4:Nat)),(16,.bool false)],H⟩) ?_ (.inr ⟨by simp,.inl ⟨rfl,rfl,s',base',k,by omega,by omega,by omega,hb',by simp [dJ,bY,au],hok',hR'⟩⟩)
    refine ⟨0,?_⟩
    simp only [dJ]
    simp (maxSteps:=2000000) -implicitDefEqProofs [-getElem?_pos,go_sem,eqV,ah]
   ·rw [if_neg hj4] at hok' hR'
    have hjl:j < 4:=by omega
    have hjI:(j:Int) < 4:=by omega
    have hst:=U4 (m:=m) (E:=H) (s:=s') (base:=base') (bits:=bits) (j:=j) hn (by omega) (by omega) hb' hjl
    by_cases hlt:n < base' + 2 ^ bits
    ·rw [if_pos hlt] at hok' hR' hst
     subst hR'
     refine aj.of (o:=⟨.ret,lnR (s',base',bits),H⟩) ?_ (.inr ⟨by simp,.inr ⟨rfl,rfl,rfl,rfl⟩⟩)
     apply Run.seq (fr':=dJ n s' base' bits ++ [(15,.int .i64 (j:Nat)),(16,.bool true)]) (H':=H)
     ·simp only [dJ]
      (refine ⟨0,?_⟩;simp (maxSteps:=2000000) -implicitDefEqProofs [-getElem?_pos,go_sem,eqV,ah,hjI,hjl])
     apply Run.seq (fr':=dJ n s' base' bits ++ [(15,.int .i64 (j:Nat)),(16,.bool true)]) (H':=H)
     ·exact Run.cond (d:=true) (by simp [dJ,aC,au]) ⟨0,rfl⟩
     exact piece hst _ rfl
    ·rw [if_neg hlt] at hok' hR' hst
     refine aj.of (o:=⟨.normal,dJ n (s' + 1) (base' + 2 ^ bits) bits ++ [(15,.int .i64 (j + 1:Nat))],H⟩) ?_ (.inl ⟨rfl,k,by omega,s' + 1,base' + 2 ^ bits,j + 1,by omega,by omega,by omega,by omega,rfl,rfl,hok',hR'⟩)
     apply Run.seq (fr':=dJ n s' base' bits ++ [(15,.int .i64 (j:Nat)),(16,.bool true)]) (H':=H)
     ·simp only [dJ]
      (refine ⟨0,?_⟩;simp (maxSteps:=2000000) -implicitDefEqProofs [-getElem?_pos,go_sem,eqV,ah,hjI,hjl])
     apply Run.seq (fr':=dJ n s' base' bits ++ [(15,.int .i64 (j:Nat)),(16,.bool true)]) (H':=H)
     ·exact Run.cond (d:=true) (by simp [dJ,aC,au]) ⟨0,rfl⟩
     exact piece hst _ rfl
 ·rintro o (⟨h1,h2⟩ | ⟨h1,h2⟩)
  ·exact .inl ⟨h1,h2⟩
  ·exact .inr h2
def lenOf (n:Nat):Nat × Nat × Nat:=if n = 258 then (285,n,0) else if n≤10 then (254 + n,n,0) else gF 4 n 40 265 11 1 0
theorem zq {per n n':Nat} (h:n≤n'):∀ (f s base bits j:Nat),gOk per n' f s base bits j = true→gOk per n f s base bits j = true
 | 0,_,_,_,_,h1=>by cases h1
 | f + 1,s,base,bits,j,h1=>by
  unfold gOk at h1 ⊢
  split
  ·rename_i hj
   rw [if_pos hj] at h1
   exact zq h f _ _ _ _ h1
  ·rename_i hj
   rw [if_neg hj] at h1
   split
   ·rfl
   ·rename_i hn
    rw [if_neg (by omega)] at h1
    exact zq h f _ _ _ _ h1
theorem X5 {n:Nat} (h:n≤258):gOk 4 n 40 265 11 1 0 = true:=zq h _ _ _ _ _ (by decide +kernel)
theorem JO {m n:Nat} {E:AM.Heap} (h:n≤258):∃ code,Try.f57.body = some code∧aj (fun o=>o.ex = .ret∧o.fr = lnR (lenOf n)∧o.H = E) X (evT X) 57 m code [(0,.int .i64 (n:Nat))] E:=by
 refine ⟨_,rfl,?_⟩
 unfold lenOf
 apply aj.seq (fr':=[(0,.int .i64 (n:Nat))]) (H':=E)
 ·(refine ⟨0,?_⟩;simp (maxSteps:=2000000) -implicitDefEqProofs [-getElem?_pos,go_sem,eqV,ah,ak])
 by_cases h1:n = 258
 ·subst h1
  rw [if_pos rfl]
  refine aj.of (o:=⟨.ret,lnR (285,258,0),E⟩) ?_ ⟨rfl,rfl,rfl⟩
  refine ⟨0,?_⟩
  simp only [lnR]
  simp (maxSteps:=2000000) -implicitDefEqProofs [-getElem?_pos,go_sem,eqV,ah,ak]
 have h1I:¬ (n:Int) = 258:=by omega
 have h1b:((n:Int) == 258) = false:=by simpa using h1I
 rw [if_neg h1]
 apply aj.assoc
 apply aj.seq (fr':=[(0,.int .i64 (n:Nat)),(6,.bool false)]) (H':=E)
 ·(refine ⟨0,?_⟩;simp (maxSteps:=2000000) -implicitDefEqProofs [-getElem?_pos,go_sem,eqV,ah,h1,h1I,h1b])
 apply aj.seq (fr':=[(0,.int .i64 (n:Nat)),(6,.bool false)]) (H':=E)
 ·exact Run.cond (d:=false) (by simp [aC,au]) ⟨0,rfl⟩
 by_cases h2:n≤10
 ·rw [if_pos h2]
  have h2I:(n:Int)≤10:=by omega
  have w1:IntKind.i64.wrap (254 + (n:Int)) = ((254 + n:Nat):Int):=by rw [wrap_i64 (by omega) (by omega)];omega
  refine aj.of (o:=⟨.ret,lnR (254 + n,n,0),E⟩) ?_ ⟨rfl,rfl,rfl⟩
  refine ⟨0,?_⟩
  simp only [lnR]
  generalize 254 + n = s at *
  simp (maxSteps:=2000000) -implicitDefEqProofs [-getElem?_pos,go_sem,eqV,ah,h2,h2I,w1,ak]
 rw [if_neg h2]
 have h2I:¬ (n:Int)≤10:=by omega
 apply aj.assoc
 apply aj.seq (fr':=[(0,.int .i64 (n:Nat)),(9,.bool false)]) (H':=E)
 ·(refine ⟨0,?_⟩;simp (maxSteps:=2000000) -implicitDefEqProofs [-getElem?_pos,go_sem,eqV,ah,h2,h2I])
 apply aj.seq (fr':=[(0,.int .i64 (n:Nat)),(9,.bool false)]) (H':=E)
 ·exact Run.cond (d:=false) (by simp [aC,au]) ⟨0,rfl⟩
 apply aj.seq (fr':=[(0,.int .i64 (n:Nat)),(2,.int .i64 265),(3,.int .i64 11)]) (H':=E)
 ·(refine ⟨0,?_⟩;simp (maxSteps:=2000000) -implicitDefEqProofs [-getElem?_pos,go_sem,eqV,ah,ak])
 apply aj.seq (fr':=dJ n 265 11 1) (H':=E)
 ·simp only [dJ]
  (refine ⟨0,?_⟩;simp (maxSteps:=2000000) -implicitDefEqProofs [-getElem?_pos,go_sem,eqV,ah,ak])
 refine aj.blk ?_ (fun o ho=>by rw [ho.1];simp)
 refine aj.kJ (I:=fun k fr H=>∃ s base bits,s + k≤900∧bits + k≤41∧base≤n + 100000∧fr = dJ n s base bits∧H = E∧gOk 4 n k s base bits 0 = true∧gF 4 n k s base bits 0 = gF 4 n 40 265 11 1 0) ?_ (k:=40) ⟨265,11,1,by omega,by omega,by omega,rfl,rfl,X5 h,rfl⟩
 rintro k fr H ⟨s,base,bits,hs,vg,hb,rfl,rfl,hok,hR⟩
 generalize gF 4 n 40 265 11 1 0 = R at *
 have h8:∃ code,((Try.f57.body).bind (aF [1,1,1,1,1,0,0,0,0,0])) = some code∧Run X (evT X) 57 m code (dJ n s base bits) H ⟨.normal,dJ n s base bits ++ [(15,.int .i64 (0:Nat))],H⟩:=by
  refine ⟨_,rfl,?_⟩
  simp only [dJ]
  (refine ⟨0,?_⟩;simp (maxSteps:=2000000) -implicitDefEqProofs [-getElem?_pos,go_sem,eqV,ah])
 obtain ⟨Qv,hcB,⟨ex,fr,H2⟩,hq,hrB⟩:=abd (m:=m) (E:=H) (by omega) hs vg hb hok hR
 rcases hq with ⟨h3,h4,s',base',f',k1,k2,k3,k4,k5,k6,k7⟩ | ⟨h3,h4,h5⟩
 ·simp only at h3 h4 k5
  subst h3 h4
  have g0:au fr 0 = .int .i64 (n:Nat):=by simpa [bY,dJ,au] using congrArg (fun f=>au f 0) k5
  have g2:au fr 2 = .int .i64 (s':Nat):=by simpa [bY,dJ,au] using congrArg (fun f=>au f 2) k5
  have g3:au fr 3 = .int .i64 (base':Nat):=by simpa [bY,dJ,au] using congrArg (fun f=>au f 3) k5
  have g4:au fr 4 = .int .i64 (bits:Nat):=by simpa [bY,dJ,au] using congrArg (fun f=>au f 4) k5
  refine aj.of (o:=⟨.normal,dJ n s' base' (bits + 1),H2⟩) ?_ (.inl ⟨rfl,f',k1,s',base',bits + 1,k2,k3,k4,rfl,rfl,k6,k7⟩)
  apply Run.seq (fr':=fr) (H':=H2)
  ·refine Run.block ?_ (by simp)
   exact Run.seq (piece h8 _ rfl) ((Option.some.inj hcB) ▸ hrB)
  ·have w1:IntKind.i64.wrap ((bits:Int) + 1) = ((bits + 1:Nat):Int):=by rw [wrap_i64 (by omega) (by omega)];omega
   generalize bits + 1 = b1 at *
   simp only [dJ]
   (refine ⟨0,?_⟩;simp (maxSteps:=2000000) -implicitDefEqProofs [-getElem?_pos,go_sem,eqV,ah,g0,g2,g3,g4,w1,ak])
 ·simp only at h3 h4 h5
  subst h3 h4 h5
  refine aj.of (o:=⟨.ret,lnR R,H2⟩) ?_ (.inr ⟨by simp,rfl,rfl,rfl⟩)
  refine Run.bH ?_ (by simp)
  refine Run.block ?_ (by simp)
  exact Run.seq (piece h8 _ rfl) ((Option.some.inj hcB) ▸ hrB)
theorem PG {n:Nat} {H:AM.Heap} (h:n≤258):evT X 57 [.int .i64 (n:Nat)] H = some (.tup [.int .i64 ((lenOf n).1:Nat),.int .i64 ((lenOf n).2.1:Nat),.int .i64 ((lenOf n).2.2:Nat)],H):=by
 obtain ⟨code,hc,⟨out,⟨h1,h2,h3⟩,hr⟩⟩:=JO (m:=0) (E:=[]) h
 have hx:=dL (C:=X) (f:=57) (i:=0) (a:=.int .i64 (n:Nat)) (H:=H) rfl rfl (bU 1)
 refine dA (Ev1.nV (l:=[.int .i64 ((lenOf n).1:Nat),.int .i64 ((lenOf n).2.1:Nat),.int .i64 ((lenOf n).2.2:Nat)]) (bn X) Try.func57 hc hx rfl (by simp [bW]) rfl rfl rfl ?_)
 rw [Zd]
 refine ⟨out,⟨h1,?_⟩,hr⟩
 show aQ X out.fr out.H [.tmp 2,.tmp 3,.tmp 4] = _
 rw [h2]
 rfl
end Go.Proofs.Ytbodincpjijdiaa
namespace Go.Proofs.Ytbodincpjijdiaa
open Go.AM
theorem U5 {m n s base bits j:Nat} {E:AM.Heap} (hn:n≤100000) (hs:s≤1000) (vg:bits≤40) (hb:base≤n + 100000) (hj:j < 2) :
  ∃ code,((Try.f58.body).bind (aF [1,1,1,1,0,0,0,0,1,0,0,1,1])) = some code∧Run X (evT X) 58 m code (dJ n s base bits ++ [(12,.int .i64 (j:Nat)),(13,.bool true)]) E (if n < base + 2 ^ bits then ⟨.ret,[(2,.int .i64 (s:Nat)),(3,.int .i64 (base:Nat)),(4,.int .i64 (bits:Nat))],E⟩ else ⟨.normal,dJ n (s + 1) (base + 2 ^ bits) bits ++ [(12,.int .i64 (j + 1:Nat))],E⟩):=by
 refine ⟨_,rfl,?_⟩
 have h1:2 ^ bits≤2 ^ 40:=Nat.pow_le_pow_right (by omega) vg
 have hp:=Sr vg
 generalize 2 ^ bits = pw at *
 have hb0:¬ (bits:Int) < 0:=by omega
 have w1:IntKind.i64.wrap ((base:Int) + ((pw:Nat):Int)) = ((base + pw:Nat):Int):=by rw [wrap_i64 (by omega) (by omega)];omega
 have w2:IntKind.i64.wrap ((s:Int) + 1) = ((s + 1:Nat):Int):=by rw [wrap_i64 (by omega) (by omega)];omega
 have w3:IntKind.i64.wrap ((j:Int) + 1) = ((j + 1:Nat):Int):=by rw [wrap_i64 (by omega) (by omega)];omega
 by_cases h:n < base + pw
 ·rw [if_pos h]
  have hI:(n:Int) < ((base + pw:Nat):Int):=by omega
  generalize base + pw = nb at *
  refine Run.bH ?_ (by simp)
  refine Run.block ?_ (by simp)
  refine Run.bH ?_ (by simp)
  apply Run.seq (fr':=dJ n s base bits ++ [(12,.int .i64 (j:Nat)),(19,.bool true)]) (H':=E)
  ·simp only [dJ]
   (refine ⟨0,?_⟩;simp (maxSteps:=2000000) -implicitDefEqProofs [-getElem?_pos,go_sem,eqV,ah,hp,hb0,w1,hI,h])
  refine Run.cond (d:=true) (by simp [dJ,aC,au]) ?_
  apply Run.seq (fr':=[(2,.int .i64 (s:Nat)),(3,.int .i64 (base:Nat)),(4,.int .i64 (bits:Nat))]) (H':=E)
  ·simp only [dJ]
   (refine ⟨0,?_⟩;simp (maxSteps:=2000000) -implicitDefEqProofs [-getElem?_pos,go_sem,eqV,ah,ak])
  ·exact ⟨0,rfl⟩
 ·rw [if_neg h]
  have hI:¬ (n:Int) < ((base + pw:Nat):Int):=by omega
  generalize base + pw = nb at *
  generalize s + 1 = s1 at *
  generalize j + 1 = j1 at *
  apply Run.seq (fr':=dJ n s1 nb bits ++ [(12,.int .i64 (j:Nat))]) (H':=E)
  ·refine Run.block ?_ (by simp)
   apply Run.seq (fr':=dJ n s base bits ++ [(12,.int .i64 (j:Nat)),(19,.bool false)]) (H':=E)
   ·apply Run.seq (fr':=dJ n s base bits ++ [(12,.int .i64 (j:Nat)),(19,.bool false)]) (H':=E)
    ·simp only [dJ]
     (refine ⟨0,?_⟩;simp (maxSteps:=2000000) -implicitDefEqProofs [-getElem?_pos,go_sem,eqV,ah,hp,hb0,w1,hI,h])
    ·exact Run.cond (d:=false) (by simp [dJ,aC,au]) ⟨0,rfl⟩
   ·simp only [dJ]
    (refine ⟨0,?_⟩;simp (maxSteps:=2000000) -implicitDefEqProofs [-getElem?_pos,go_sem,eqV,ah,hp,hb0,w1,w2,ak])
  ·simp only [dJ]
   (refine ⟨0,?_⟩;simp (maxSteps:=2000000) -implicitDefEqProofs [-getElem?_pos,go_sem,eqV,ah,w3])
theorem abe {m n s base bits f:Nat} {R:Nat × Nat × Nat} {E:AM.Heap} (hn:n≤100000) (hs:s + f≤900) (vg:bits + f≤41) (hb:base≤n + 100000) (hok:gOk 2 n f s base bits 0 = true) (hR:gF 2 n f s base bits 0 = R) :
  ∃ code,((Try.f58.body).bind (aF [1,1,1,1,0,0,0,0,1])) = some code∧aj (fun o=>(o.ex = .normal∧o.H = E∧∃ s' base' f',f' < f∧s' + f'≤900∧bits + 1 + f'≤41∧base'≤n + 100000∧bY [0,2,3,4] o.fr = dJ n s' base' bits∧gOk 2 n f' s' base' (bits + 1) 0 = true∧gF 2 n f' s' base' (bits + 1) 0 = R)∨(o.ex = .ret∧o.fr = lnR R∧o.H = E)) X (evT X) 58 m code (dJ n s base bits ++ [(12,.int .i64 (0:Nat))]) E:=by
 refine ⟨_,rfl,?_⟩
 refine aj.mono (aj.NP (P:=fun fr H=>H = E∧∃ s' base' f',f' < f∧s' + f'≤900∧bits + 1 + f'≤41∧base'≤n + 100000∧bY [0,2,3,4] fr = dJ n s' base' bits∧gOk 2 n f' s' base' (bits + 1) 0 = true∧gF 2 n f' s' base' (bits + 1) 0 = R) (Q:=fun o=>o.ex = .ret∧o.fr = lnR R∧o.H = E) ?_) ?_
 ·refine aj.kJ (I:=fun k fr H=>∃ s' base' j,k≤f∧s' + k≤900∧base'≤n + 100000∧j≤2∧fr = dJ n s' base' bits ++ [(12,.int .i64 (j:Nat))]∧H = E∧gOk 2 n k s' base' bits j = true∧gF 2 n k s' base' bits j = R) ?_ (k:=f) ⟨s,base,0,by omega,hs,hb,by omega,rfl,rfl,hok,hR⟩
  rintro k fr H ⟨s',base',j,hk,hsk,hb',hj,rfl,rfl,hok',hR'⟩
  cases k with
  | zero=>simp [gOk] at hok'
  | succ k =>
   rw [gOk] at hok'
   rw [gF] at hR'
   by_cases hj2:j = 2
   ·subst hj2
    rw [if_pos rfl] at hok' hR'
    refine aj.of (o:=⟨.exit 2,dJ n s' base' bits ++ [(12,.int .i64 (2:Nat)),(13,.bool false)],H⟩) ?_ (.inr ⟨by simp,.inl ⟨rfl,rfl,s',base',k,by omega,by omega,by omega,hb',by simp [dJ,bY,au],hok',hR'⟩⟩)
    refine ⟨0,?_⟩
    simp only [dJ]
    simp (maxSteps:=2000000) -implicitDefEqProofs [-getElem?_pos,go_sem,eqV,ah]
   ·rw [if_neg hj2] at hok' hR'
    have hjl:j < 2:=by omega
    have hjI:(j:Int) < 2:=by omega
    have hst:=U5 (m:=m) (E:=H) (s:=s') (base:=base') (bits:=bits) (j:=j) hn (by omega) (by omega) hb' hjl
    by_cases hlt:n < base' + 2 ^ bits
    ·rw [if_pos hlt] at hok' hR' hst
     subst hR'
     refine aj.of (o:=⟨.ret,lnR (s',base',bits),H⟩) ?_ (.inr ⟨by simp,.inr ⟨rfl,rfl,rfl,rfl⟩⟩)
     apply Run.seq (fr':=dJ n s' base' bits ++ [(12,.int .i64 (j:Nat)),(13,.bool true)]) (H':=H)
     ·simp only [dJ]
      (refine ⟨0,?_⟩;simp (maxSteps:=2000000) -implicitDefEqProofs [-getElem?_pos,go_sem,eqV,ah,hjI,hjl])
     apply Run.seq (fr':=dJ n s' base' bits ++ [(12,.int .i64 (j:Nat)),(13,.bool true)]) (H':=H)
     ·exact Run.cond (d:=true) (by simp [dJ,aC,au]) ⟨0,rfl⟩
     exact piece hst _ rfl
    ·rw [if_neg hlt] at hok' hR' hst
     refine aj.of (o:=⟨.normal,dJ n (s' + 1) (base' + 2 ^ bits) bits ++ [(12,.int .i64 (j + 1:Nat))],H⟩) ?_ (.inl ⟨rfl,k,by omega,s' + 1,base' + 2 ^ bits,j + 1,by omega,by omega,by omega,by omega,rfl,rfl,hok',hR'⟩)
     apply Run.seq (fr':=dJ n s' base' bits ++ [(12,.int .i64 (j:Nat)),(13,.bool true)]) (H':=H)
     ·simp only [dJ]
      (refine ⟨0,?_⟩;simp (maxSteps:=2000000) -implicitDefEqProofs [-getElem?_pos,go_sem,eqV,ah,hjI,hjl])
     apply Run.seq (fr':=dJ n s' base' bits ++ [(12,.int .i64 (j:Nat)),(13,.bool true)]) (H':=H)
     ·exact Run.cond (d:=true) (by simp [dJ,aC,au]) ⟨0,rfl⟩
     exact piece hst _ rfl
 ·rintro o (⟨h1,h2⟩ | ⟨h1,h2⟩)
  ·exact .inl ⟨h1,h2⟩
  ·exact .inr h2
def bG (n:Nat):Nat × Nat × Nat:=if n≤4 then (n - 1,n,0) else gF 2 n 40 4 5 1 0
theorem BU {n:Nat} (h:n≤32768):gOk 2 n 40 4 5 1 0 = true:=zq h _ _ _ _ _ (by decide +kernel)
theorem En {m n:Nat} {E:AM.Heap} (h0:1≤n) (h:n≤32768):∃ code,Try.f58.body = some code∧aj (fun o=>o.ex = .ret∧o.fr = lnR (bG n)∧o.H = E) X (evT X) 58 m code [(0,.int .i64 (n:Nat))] E:=by
 refine ⟨_,rfl,?_⟩
 unfold bG
 apply aj.seq (fr':=[(0,.int .i64 (n:Nat))]) (H':=E)
 ·(refine ⟨0,?_⟩;simp (maxSteps:=2000000) -implicitDefEqProofs [-getElem?_pos,go_sem,eqV,ah,ak])
 by_cases h2:n≤4
 ·rw [if_pos h2]
  have h2I:(n:Int)≤4:=by omega
  have w1:IntKind.i64.wrap ((n:Int) - 1) = ((n - 1:Nat):Int):=by rw [wrap_i64 (by omega) (by omega)];omega
  refine aj.of (o:=⟨.ret,lnR (n - 1,n,0),E⟩) ?_ ⟨rfl,rfl,rfl⟩
  refine ⟨0,?_⟩
  simp only [lnR]
  generalize n - 1 = s at *
  simp (maxSteps:=2000000) -implicitDefEqProofs [-getElem?_pos,go_sem,eqV,ah,h2,h2I,w1,ak]
 rw [if_neg h2]
 have h2I:¬ (n:Int)≤4:=by omega
 apply aj.assoc
 apply aj.seq (fr':=[(0,.int .i64 (n:Nat)),(6,.bool false)]) (H':=E)
 ·(refine ⟨0,?_⟩;simp (maxSteps:=2000000) -implicitDefEqProofs [-getElem?_pos,go_sem,eqV,ah,h2,h2I])
 apply aj.seq (fr':=[(0,.int .i64 (n:Nat)),(6,.bool false)]) (H':=E)
 ·exact Run.cond (d:=false) (by simp [aC,au]) ⟨0,rfl⟩
 apply aj.seq (fr':=[(0,.int .i64 (n:Nat)),(2,.int .i64 4),(3,.int .i64 5)]) (H':=E)
 ·(refine ⟨0,?_⟩;simp (maxSteps:=2000000) -implicitDefEqProofs [-getElem?_pos,go_sem,eqV,ah,ak])
 apply aj.seq (fr':=dJ n 4 5 1) (H':=E)
 ·simp only [dJ]
  (refine ⟨0,?_⟩;simp (maxSteps:=2000000) -implicitDefEqProofs [-getElem?_pos,go_sem,eqV,ah,ak])
 refine aj.blk ?_ (fun o ho=>by rw [ho.1];simp)
 refine aj.kJ (I:=fun k fr H=>∃ s base bits,s + k≤900∧bits + k≤41∧base≤n + 100000∧fr = dJ n s base bits∧H = E∧gOk 2 n k s base bits 0 = true∧gF 2 n k s base bits 0 = gF 2 n 40 4 5 1 0) ?_ (k:=40) ⟨4,5,1,by omega,by omega,by omega,rfl,rfl,BU h,rfl⟩
 rintro k fr H ⟨s,base,bits,hs,vg,hb,rfl,rfl,hok,hR⟩
 generalize gF 2 n 40 4 5 1 0 = R at *
 have h8:∃ code,((Try.f58.body).bind (aF [1,1,1,1,0,0,0,0,0])) = some code∧Run X (evT X) 58 m code (dJ n s base bits) H ⟨.normal,dJ n s base bits ++ [(12,.int .i64 (0:Nat))],H⟩:=by
  refine ⟨_,rfl,?_⟩
  simp only [dJ]
  (refine ⟨0,?_⟩;simp (maxSteps:=2000000) -implicitDefEqProofs [-getElem?_pos,go_sem,eqV,ah])
 obtain ⟨Qv,hcB,⟨ex,fr,H2⟩,hq,hrB⟩:=abe (m:=m) (E:=H) (by omega) hs vg hb hok hR
 rcases hq with ⟨h3,h4,s',base',f',k1,k2,k3,k4,k5,k6,k7⟩ | ⟨h3,h4,h5⟩
 ·simp only at h3 h4 k5
  subst h3 h4
  have g0:au fr 0 = .int .i64 (n:Nat):=by simpa [bY,dJ,au] using congrArg (fun f=>au f 0) k5
  have g2:au fr 2 = .int .i64 (s':Nat):=by simpa [bY,dJ,au] using congrArg (fun f=>au f 2) k5
  have g3:au fr 3 = .int .i64 (base':Nat):=by simpa [bY,dJ,au] using congrArg (fun f=>au f 3) k5
  have g4:au fr 4 = .int .i64 (bits:Nat):=by simpa [bY,dJ,au] using congrArg (fun f=>au f 4) k5
  refine aj.of (o:=⟨.normal,dJ n s' base' (bits + 1),H2⟩) ?_ (.inl ⟨rfl,f',k1,s',base',bits + 1,k2,k3,k4,rfl,rfl,k6,k7⟩)
  apply Run.seq (fr':=fr) (H':=H2)
  ·refine Run.block ?_ (by simp)
   exact Run.seq (piece h8 _ rfl) ((Option.some.inj hcB) ▸ hrB)
  ·have w1:IntKind.i64.wrap ((bits:Int) + 1) = ((bits + 1:Nat):Int):=by rw [wrap_i64 (by omega) (by omega)];omega
   generalize bits + 1 = b1 at *
   simp only [dJ]
   (refine ⟨0,?_⟩;simp (maxSteps:=2000000) -implicitDefEqProofs [-getElem?_pos,go_sem,eqV,ah,g0,g2,g3,g4,w1,ak])
 ·simp only at h3 h4 h5
  subst h3 h4 h5
  refine aj.of (o:=⟨.ret,lnR R,H2⟩) ?_ (.inr ⟨by simp,rfl,rfl,rfl⟩)
  refine Run.bH ?_ (by simp)
  refine Run.block ?_ (by simp)
  exact Run.seq (piece h8 _ rfl) ((Option.some.inj hcB) ▸ hrB)
theorem JQ {n:Nat} {H:AM.Heap} (h0:1≤n) (h:n≤32768):evT X 58 [.int .i64 (n:Nat)] H = some (.tup [.int .i64 ((bG n).1:Nat),.int .i64 ((bG n).2.1:Nat),.int .i64 ((bG n).2.2:Nat)],H):=by
 obtain ⟨code,hc,⟨out,⟨h1,h2,h3⟩,hr⟩⟩:=En (m:=0) (E:=[]) h0 h
 have hx:=dL (C:=X) (f:=58) (i:=0) (a:=.int .i64 (n:Nat)) (H:=H) rfl rfl (bU 1)
 refine dA (Ev1.nV (l:=[.int .i64 ((bG n).1:Nat),.int .i64 ((bG n).2.1:Nat),.int .i64 ((bG n).2.2:Nat)]) (bn X) Try.func58 hc hx rfl (by simp [bW]) rfl rfl rfl ?_)
 rw [Ze]
 refine ⟨out,⟨h1,?_⟩,hr⟩
 show aQ X out.fr out.H [.tmp 2,.tmp 3,.tmp 4] = _
 rw [h2]
 rfl
end Go.Proofs.Ytbodincpjijdiaa
namespace Go.Proofs.Ytbodincpjijdiaa
open Go.AM
def jU:List Int→List Int→List Int × Int
 | n,[]=>(n,0)
 | n,x :: r=>if 0≤x∧x≤15 then jU (n.set x.toNat (IntKind.i64.wrap (n.getD x.toNat 0 + 1))) r else (n,2)
def z16:List Int:=[0,0,0,0,0,0,0,0,0,0,0,0,0,0,0,0]
def eP (l:List Int):List Int × Int:=if 320 < (l.length:Int) then (z16,3) else jU z16 l
def bx (n:List Int):Option AM.Obj:=some { p:=.pi .i64 n,g:=0,cap:=some 16,z:=1,row:=false,ids:=false,tg:=0 }
theorem yg:∀ (l n:List Int),(jU n l).1.length = n.length
 | [],n=>rfl
 | x :: r,n=>by
  simp only [jU]
  split
  ·rw [yg r];simp
  ·rfl
def oJ (c:Nat) (l n todo:List Int):AM.Out :=
 if (jU n todo).2 = 0 then ⟨.exit 0,[(2,.ptr 0 0 0 0),(4,.ptr 1 0 0 0),(11,.ro c (.pi .i64 l) 1),(12,.int .i64 l.length),(13,.int .i64 l.length),(14,.bool false)],[bx z16,bx (jU n todo).1]⟩
 else ⟨.ret,[(2,.ptr 0 0 0 0),(3,.int .i64 (jU n todo).2)],[bx (jU n todo).1,bx (jU n todo).1]⟩
theorem JR (T:Cf) (c:Nat) (l:List Int) (h63:l.length < 9223372036854775808):∃ code,Try.f74.body = some code ∧
  Run X T 74 0 code [(0,.ro c (.pi .i64 l) 1)] [] ⟨.ret,[(2,.ptr 0 0 0 0),(3,.int .i64 (eP l).2)],[bx (eP l).1,bx (eP l).1]⟩:=by
 refine ⟨_,rfl,?_⟩
 by_cases hl:320 < (l.length:Int)
 ·simp only [eP,hl,if_true]
  apply Run.seq
  ·(refine ⟨0,?_⟩;conv=>lhs;simp (maxSteps:=2000000) -implicitDefEqProofs [-getElem?_pos,go_sem,eqV,ah])
  apply Run.seq
  ·(refine ⟨0,?_⟩;conv=>lhs;simp (maxSteps:=2000000) -implicitDefEqProofs [-getElem?_pos,go_sem,eqV,ah])
  apply Run.bH
  ·apply Run.seq
   ·(refine ⟨0,?_⟩;conv=>lhs;simp (maxSteps:=2000000) -implicitDefEqProofs [-getElem?_pos,go_sem,eqV,ah,hl])
   ·refine Run.cond (d:=true) rfl ?_
    apply Run.seq
    ·(refine ⟨0,?_⟩;conv=>lhs;simp (maxSteps:=2000000) -implicitDefEqProofs [-getElem?_pos,go_sem,eqV,ah])
    ·exact ⟨0,rfl⟩
  ·simp
 ·simp only [eP,hl,if_false]
  apply Run.seq
  ·(refine ⟨0,?_⟩;conv=>lhs;simp (maxSteps:=2000000) -implicitDefEqProofs [-getElem?_pos,go_sem,eqV,ah])
  apply Run.seq
  ·(refine ⟨0,?_⟩;conv=>lhs;simp (maxSteps:=2000000) -implicitDefEqProofs [-getElem?_pos,go_sem,eqV,ah])
  apply Run.seq
  ·apply Run.seq
   ·(refine ⟨0,?_⟩;conv=>lhs;simp (maxSteps:=2000000) -implicitDefEqProofs [-getElem?_pos,go_sem,eqV,ah,hl])
   ·exact Run.cond (d:=false) rfl ⟨0,rfl⟩
  -- the loop
  apply Run.seq' (o:=jQ 0 (oJ c l z16 l))
  ·apply Run.seq
   ·(refine ⟨0,?_⟩;conv=>lhs;simp (maxSteps:=2000000) -implicitDefEqProofs [-getElem?_pos,go_sem,eqV,ah])
   ·apply Run.block'
    refine Run.jD (σ:=List Int × List Int × List Int) (fun s=>s.1.length = 16∧s.2.1 ++ s.2.2 = l) (fun s=>[(2,.ptr 0 0 0 0),(4,.ptr 1 0 0 0),(11,.ro c (.pi .i64 l) 1),(12,.int .i64 l.length),(13,.int .i64 (s.2.1.length:Nat))])
     (fun s=>[bx z16,bx s.1]) (fun s=>oJ c l s.1 s.2.2) (fun s=>s.2.2.length) ?_ (z16,[],l) ⟨rfl,rfl⟩
    rintro ⟨n,done,todo⟩ ⟨hn,hd⟩
    simp only at hn hd ⊢
    cases todo with
    | nil =>
     right
     have hlen:done.length = l.length:=by rw [← hd];simp
     refine ⟨?_,by simp [oJ,jU]⟩
     simp only [oJ,jU,if_true]
     apply Run.seq
     ·(refine ⟨0,?_⟩;conv=>lhs;simp (maxSteps:=2000000) -implicitDefEqProofs [-getElem?_pos,go_sem,eqV,ah,hlen])
     ·apply Run.bH
      ·exact Run.cond (d:=false) rfl ⟨0,rfl⟩
      ·simp
    | cons x todo =>
     have hlt:done.length < l.length:=by rw [← hd];simp
     have hget:l[done.length]? = some x:=by rw [← hd];simp
     by_cases hx:0≤x∧x≤15
     ·left
      obtain ⟨v,hv⟩:∃ v,n[x.toNat]? = some v:=⟨n[x.toNat]'(by omega),List.getElem?_eq_getElem (by omega)⟩
      refine ⟨(n.set x.toNat (IntKind.i64.wrap (v + 1)),done ++ [x],todo),⟨by simpa using hn,by simpa using hd⟩,?_,?_,by simp⟩
      ·have iT:(done.length:Int) < (l.length:Int):=by omega
       have hx1:¬ x < 0:=by omega
       have hx2:¬ 15 < x:=by omega
       have hx3:x < 16:=by omega
       have e:IntKind.i64.wrap ((done.length:Int) + 1) = (done.length:Int) + 1:=wrap_i64 (by omega) (by omega)
       apply Run.seq
       ·(refine ⟨0,?_⟩;conv=>lhs;simp (maxSteps:=2000000) -implicitDefEqProofs [-getElem?_pos,go_sem,eqV,ah,iT])
       apply Run.seq
       ·exact Run.cond (d:=true) rfl ⟨0,rfl⟩
       apply Run.seq
       ·apply Run.block
        ·apply Run.seq
         ·(refine ⟨0,?_⟩;conv=>lhs;simp (maxSteps:=2000000) -implicitDefEqProofs [-getElem?_pos,go_sem,eqV,ah,hget,hlt])
         apply Run.seq
         ·apply Run.seq
          ·(refine ⟨0,?_⟩;conv=>lhs;simp (maxSteps:=2000000) -implicitDefEqProofs [-getElem?_pos,go_sem,eqV,ah,hx1,hx2])
          ·exact Run.cond (d:=false) rfl ⟨0,rfl⟩
         ·(refine ⟨0,?_⟩;conv=>lhs;simp (maxSteps:=2000000) -implicitDefEqProofs [-getElem?_pos,go_sem,eqV,ah,hx.1,hx3,hv,bx,hn])
        ·simp
       ·(refine ⟨0,?_⟩;simp (maxSteps:=2000000) -implicitDefEqProofs [-getElem?_pos,go_sem,eqV,ah,e,bx,List.getD_eq_getElem?_getD,hv])
      ·simp [oJ,jU,hx,List.getD_eq_getElem?_getD,hv]
     ·right
      refine ⟨?_,by simp [oJ,jU,hx]⟩
      have iT:(done.length:Int) < (l.length:Int):=by omega
      simp only [oJ,jU,hx,if_false]
      apply Run.seq
      ·(refine ⟨0,?_⟩;conv=>lhs;simp (maxSteps:=2000000) -implicitDefEqProofs [-getElem?_pos,go_sem,eqV,ah,iT])
      apply Run.seq
      ·exact Run.cond (d:=true) rfl ⟨0,rfl⟩
      apply Run.bH
      ·apply Run.block
       ·apply Run.seq
        ·(refine ⟨0,?_⟩;conv=>lhs;simp (maxSteps:=2000000) -implicitDefEqProofs [-getElem?_pos,go_sem,eqV,ah,hget,hlt])
        apply Run.bH
        ·refine Run.seq (fr':=[(2,.ptr 0 0 0 0),(4,.ptr 1 0 0 0),(6,.int .i64 x),(11,.ro c (.pi .i64 l) 1),(12,.int .i64 l.length),(13,.int .i64 done.length),(22,.bool true)]) (H':=[bx z16,bx n]) ⟨0,?_⟩ ?_
         ·by_cases hx1:x < 0
          ·simp (maxSteps:=2000000) -implicitDefEqProofs [-getElem?_pos,go_sem,eqV,ah,hx1]
          ·have hx2:15 < x:=by omega
           simp (maxSteps:=2000000) -implicitDefEqProofs [-getElem?_pos,go_sem,eqV,ah,hx1,hx2]
         ·refine Run.cond (d:=true) rfl ?_
          apply Run.seq
          ·(refine ⟨0,?_⟩;conv=>lhs;simp (maxSteps:=2000000) -implicitDefEqProofs [-getElem?_pos,go_sem,eqV,ah,bx,z16,hn])
          ·exact ⟨0,rfl⟩
        ·simp
       ·simp
      ·simp
  ·intro fr' H' h
   unfold oJ at h
   split at h
   ·rename_i he
    simp only [jQ,if_true,Out.mk.injEq,true_and] at h
    obtain ⟨rfl,rfl⟩:=h
    rw [he]
    have hn:=yg l z16
    generalize (jU z16 l).1 = n at hn ⊢
    have hn':n.length = 16:=hn
    apply Run.seq
    ·(refine ⟨0,?_⟩;conv=>lhs;simp (maxSteps:=2000000) -implicitDefEqProofs [-getElem?_pos,go_sem,eqV,ah,bx,z16,hn'])
    ·exact ⟨0,rfl⟩
   ·simp [jQ] at h
  ·intro h
   unfold oJ at h ⊢
   split at h
   ·simp [jQ] at h
   ·rename_i he
    rw [if_neg he]
    rfl
end Go.Proofs.Ytbodincpjijdiaa
namespace Go.Proofs.Ytbodincpjijdiaa
open Go.AM
theorem vw (l:List Int):(eP l).1.length = 16:=by
 unfold eP
 split
 ·rfl
 ·rw [yg];rfl
theorem FC:∀ (l n:List Int),(jU n l).2 = 0→∀ x ∈ l,0≤x∧x≤15
 | [],n,_=>by simp
 | x :: r,n,h=>by
  simp only [jU] at h
  split at h
  ·rename_i hx
   intro y hy
   rcases List.mem_cons.1 hy with rfl | hy
   ·exact hx
   ·exact FC r _ h y hy
  ·simp at h
theorem ML {l:List Int} (h:(eP l).2 = 0):l.length≤320∧∀ x ∈ l,0≤x∧x≤15:=by
 unfold eP at h
 split at h
 ·simp at h
 ·rename_i hl
  exact ⟨by omega,FC l z16 h⟩
def cnt (l:List Int):AV:=.tup [.agg (.pi .i64 (eP l).1),.int .i64 (eP l).2]
theorem PI (c:Nat) (l:List Int) (h63:l.length < 9223372036854775808):Ev1 X 74 [.ro c (.pi .i64 l) 1] [] (cnt l,[]):=by
 obtain ⟨code,hb,hr⟩:=JR (fun _ _ _=>.none) c l h63
 have hn:=vw l
 exact Ev1.plain (l:=[.agg (.pi .i64 (eP l).1),.int .i64 (eP l).2]) Below.none Try.func74 hb rfl rfl (by simp [bW]) hr (.inr rfl) (by
  have:Try.f74.results.toList = [.cell 2 112,.tmp 3]:=rfl
  rw [this]
  simp [-getElem?_pos,List.getElem?_cons_zero,aQ,tu,au,live,bx,Ee,hn,uI]) rfl rfl
def S1 (f:Nat) (xs:List AV):Option (AV × AM.Heap) :=
 match f,xs with
 | 74,[.ro _ (.pi .i64 l) 1]=>if l.length < 9223372036854775808 then some (cnt l,[]) else .none
 | _,_=>.none
theorem VP:∀ f xs v N,S1 f xs = some (v,N)→Ev1 X f xs [] (v,N):=by
 intro f xs v N h
 unfold S1 at h
 split at h
 ·split at h
  ·rename_i hl
   simp only [Option.some.injEq,Prod.mk.injEq] at h
   obtain ⟨rfl,rfl⟩:=h
   exact PI _ _ hl
  ·cases h
 ·cases h
noncomputable def T1:Cf:=yJ X S1
theorem Sv:Below X T1:=uH VP
theorem PK {H:AM.Heap} {a:AV} {l:List Int} (h:gq H a = some (.pi .i64 l)) (hl:l.length < 9223372036854775808):T1 74 [a] H = some (cnt l,H):=by
 obtain ⟨c,x,hx⟩:=dS (C:=X) (f:=74) (i:=0) rfl h (bU 1)
 unfold T1 yJ
 rw [hx]
 simp [S1,hl,aJ,ids,cnt,xG,qI,tags,bQ,dM,kG,ren,bZ]
theorem abf (c t:Nat) (l:List Int) (H:AM.Heap) (hl:l.length < 9223372036854775808):T1 74 [.ro c (.pi .i64 l) t] H = some (cnt l,H):=PK rfl hl
def MN (n:List Int):Nat→Nat→Int→Int
 | 0,_,s=>s
 | k + 1,i,s=>MN n k (i + 1) (IntKind.i64.wrap (s + IntKind.i64.wrap (n.getD i 0 * 2 ^ (min (15 - i) 64))))
def oz (l:List Int):Bool × Int :=
 if (eP l).2 = 0 then
  if 32768 < MN (eP l).1 15 1 0 then (false,7) else (MN (eP l).1 15 1 0 == 32768,0)
 else (false,(eP l).2)
theorem MO (c:Nat) (l:List Int) (h63:l.length < 9223372036854775808):∃ code,Try.f73.body = some code ∧
  Run X T1 73 0 code [(0,.ro c (.pi .i64 l) 1)] [] ⟨.ret,[(2,.bool (oz l).1),(3,.int .i64 (oz l).2)],[bx (eP l).1]⟩:=by
 refine ⟨_,rfl,?_⟩
 have hT:=fun H=>abf c 1 l H h63
 have hn:=vw l
 unfold oz
 unfold cnt at hT
 generalize (eP l).1 = n at hT hn ⊢
 generalize (eP l).2 = e at hT ⊢
 apply Run.seq
 ·(refine ⟨0,?_⟩;conv=>lhs;simp (maxSteps:=2000000) -implicitDefEqProofs [-getElem?_pos,go_sem,eqV,ah])
 apply Run.seq
 ·(refine ⟨0,?_⟩;conv=>lhs;simp (maxSteps:=2000000) -implicitDefEqProofs [-getElem?_pos,go_sem,eqV,ah,hT,hn])
 by_cases he:e = 0
 ·subst he
  simp only [if_true]
  apply Run.seq
  ·apply Run.seq
   ·(refine ⟨0,?_⟩;conv=>lhs;simp (maxSteps:=2000000) -implicitDefEqProofs [-getElem?_pos,go_sem,eqV,ah])
   ·exact Run.cond (d:=false) rfl ⟨0,rfl⟩
  apply Run.seq
  ·(refine ⟨0,?_⟩;conv=>lhs;simp (maxSteps:=2000000) -implicitDefEqProofs [-getElem?_pos,go_sem,eqV,ah])
  apply Run.seq (fr':=[(4,.ptr 0 0 0 0),(5,.int .i64 (MN n 15 1 0)),(6,.int .i64 16),(16,.bool false)]) (H':=[bx n])
  ·apply Run.seq (fr':=[(4,.ptr 0 0 0 0),(5,.int .i64 0),(6,.int .i64 (1:Nat))]) (H':=[bx n])
   ·(refine ⟨0,?_⟩;simp (maxSteps:=2000000) -implicitDefEqProofs [-getElem?_pos,go_sem,eqV,ah,bx])
   ·apply Run.eF
    refine Run.jD (σ:=Nat × Nat × Int) (fun s=>s.1 + s.2.1 = 16∧1≤s.2.1) (fun s=>[(4,.ptr 0 0 0 0),(5,.int .i64 s.2.2),(6,.int .i64 (s.2.1:Nat))]) (fun _=>[bx n])
     (fun s=>⟨.exit 0,[(4,.ptr 0 0 0 0),(5,.int .i64 (MN n s.1 s.2.1 s.2.2)),(6,.int .i64 16),(16,.bool false)],[bx n]⟩) (fun s=>s.1) ?_ (15,1,0) ⟨rfl,Nat.le_refl 1⟩
    rintro ⟨k,i,s⟩ ⟨hk,hi⟩
    simp only at hk hi ⊢
    cases k with
    | zero =>
     right
     have:i = 16:=by omega
     subst this
     refine ⟨?_,by simp⟩
     apply Run.bH
     ·(refine ⟨0,?_⟩;simp (maxSteps:=2000000) -implicitDefEqProofs [-getElem?_pos,go_sem,eqV,ah,MN])
     ·simp
    | succ k =>
     left
     refine ⟨(k,i + 1,IntKind.i64.wrap (s + IntKind.i64.wrap (n.getD i 0 * 2 ^ (min (15 - i) 64)))),⟨show k + (i + 1) = 16 by omega,show 1≤i + 1 by omega⟩,?_,rfl,by simp⟩
     obtain ⟨v,hv⟩:∃ v,n[i]? = some v:=⟨n[i]'(by omega),List.getElem?_eq_getElem (by omega)⟩
     have X6:(i:Int)≤15:=by omega
     have X7:i < 16:=by omega
     have X8:(i:Int) < 16:=by omega
     have e1:IntKind.i64.wrap (15 - (i:Int)) = 15 - (i:Int):=wrap_i64 (by omega) (by omega)
     have e2:(15 - (i:Int)).toNat = 15 - i:=by omega
     have e3:¬ (15 - (i:Int) < 0):=by omega
     have e4:IntKind.i64.wrap ((i:Int) + 1) = (i:Int) + 1:=wrap_i64 (by omega) (by omega)
     apply Run.seq
     ·(refine ⟨0,?_⟩;conv=>lhs;simp (maxSteps:=2000000) -implicitDefEqProofs [-getElem?_pos,go_sem,eqV,ah,X6])
     apply Run.seq
     ·apply Run.block
      ·(refine ⟨0,?_⟩;conv=>lhs;simp (maxSteps:=2000000) -implicitDefEqProofs [-getElem?_pos,go_sem,eqV,ah,bx,hn,X7,X8,hv,e1,e2,e3,IntKind.bits])
      ·simp
     ·(refine ⟨0,?_⟩;simp (maxSteps:=2000000) -implicitDefEqProofs [-getElem?_pos,go_sem,eqV,ah,e4,List.getD_eq_getElem?_getD,hv,bx])
  ·by_cases hs:32768 < MN n 15 1 0
   ·simp only [hs,if_true]
    apply Run.bH
    ·apply Run.seq
     ·(refine ⟨0,?_⟩;conv=>lhs;simp (maxSteps:=2000000) -implicitDefEqProofs [-getElem?_pos,go_sem,eqV,ah,hs])
     ·refine Run.cond (d:=true) rfl ?_
      apply Run.seq
      ·(refine ⟨0,?_⟩;conv=>lhs;simp (maxSteps:=2000000) -implicitDefEqProofs [-getElem?_pos,go_sem,eqV,ah])
      ·exact ⟨0,rfl⟩
    ·simp
   ·simp only [hs,if_false]
    apply Run.seq
    ·apply Run.seq
     ·(refine ⟨0,?_⟩;conv=>lhs;simp (maxSteps:=2000000) -implicitDefEqProofs [-getElem?_pos,go_sem,eqV,ah,hs])
     ·exact Run.cond (d:=false) rfl ⟨0,rfl⟩
    apply Run.seq
    ·(refine ⟨0,?_⟩;conv=>lhs;simp (maxSteps:=2000000) -implicitDefEqProofs [-getElem?_pos,go_sem,eqV,ah])
    ·exact ⟨0,rfl⟩
 ·simp only [he,if_false]
  have hb:(e != 0) = true:=by simpa using he
  apply Run.bH
  ·apply Run.seq
   ·(refine ⟨0,?_⟩;conv=>lhs;simp (maxSteps:=2000000) -implicitDefEqProofs [-getElem?_pos,go_sem,eqV,ah,hb])
   ·refine Run.cond (d:=true) rfl ?_
    apply Run.seq
    ·(refine ⟨0,?_⟩;conv=>lhs;simp (maxSteps:=2000000) -implicitDefEqProofs [-getElem?_pos,go_sem,eqV,ah,bx])
    ·exact ⟨0,rfl⟩
  ·simp
end Go.Proofs.Ytbodincpjijdiaa
namespace Go.Proofs.Ytbodincpjijdiaa
open Go.AM
def mF (n:List Int):Option AM.Obj:=some { p:=.pi .i64 n,g:=0,cap:=some 17,z:=1,row:=false,ids:=false,tg:=0 }
def z17:List Int:=[0,0,0,0,0,0,0,0,0,0,0,0,0,0,0,0,0]
def vC (n:List Int):Nat→Nat→List Int→List Int
 | 0,_,f=>f
 | k + 1,i,f=>vC n k (i + 1) (f.set (i + 1) (IntKind.i64.wrap (IntKind.i64.wrap (f.getD i 0 + n.getD i 0) * 2)))
def kV (n:List Int):List Int:=vC (n.set 0 0) 15 1 z17
theorem sW (n:List Int):∀ (k i:Nat) (f:List Int),(vC n k i f).length = f.length
 | 0,_,_=>rfl
 | k + 1,i,f=>by rw [vC,sW n k];simp
theorem JU (T:Cf) (n0:List Int) (hn0:n0.length = 16):∃ code,Try.f75.body = some code ∧
  Run X T 75 0 code [(0,.agg (.pi .i64 n0))] [] ⟨.ret,[(2,.ptr 1 0 0 0)],[bx (n0.set 0 0),mF (kV n0),mF (kV n0)]⟩:=by
 refine ⟨_,rfl,?_⟩
 unfold kV
 have hn:(n0.set 0 0).length = 16:=by simpa using hn0
 have h0:0 < n0.length:=by omega
 apply Run.seq
 ·(refine ⟨0,?_⟩;conv=>lhs;simp (maxSteps:=2000000) -implicitDefEqProofs [-getElem?_pos,go_sem,eqV,ah,hn0])
 apply Run.seq
 ·(refine ⟨0,?_⟩;conv=>lhs;simp (maxSteps:=2000000) -implicitDefEqProofs [-getElem?_pos,go_sem,eqV,ah])
 apply Run.seq (fr':=[(1,.ptr 0 0 0 0),(2,.ptr 1 0 0 0),(3,.ptr 2 0 0 0)]) (H':=[bx (n0.set 0 0),mF z17,mF z17])
 ·(refine ⟨0,?_⟩;simp (maxSteps:=2000000) -implicitDefEqProofs [-getElem?_pos,go_sem,eqV,ah,h0,bx,mF,z17,hn0])
 generalize n0.set 0 0 = n at hn ⊢
 have hlen:=sW n 15 1 z17
 apply Run.seq (fr':=[(1,.ptr 0 0 0 0),(2,.ptr 1 0 0 0),(3,.ptr 2 0 0 0),(4,.int .i64 16),(7,.bool false)]) (H':=[bx n,mF z17,mF (vC n 15 1 z17)])
 ·apply Run.seq (fr':=[(1,.ptr 0 0 0 0),(2,.ptr 1 0 0 0),(3,.ptr 2 0 0 0),(4,.int .i64 (1:Nat))]) (H':=[bx n,mF z17,mF z17])
  ·(refine ⟨0,?_⟩;simp (maxSteps:=2000000) -implicitDefEqProofs [-getElem?_pos,go_sem,eqV,ah])
  ·apply Run.eF
   refine Run.jD (σ:=Nat × Nat × List Int) (fun s=>s.1 + s.2.1 = 16∧1≤s.2.1∧s.2.2.length = 17) (fun s=>[(1,.ptr 0 0 0 0),(2,.ptr 1 0 0 0),(3,.ptr 2 0 0 0),(4,.int .i64 (s.2.1:Nat))]) (fun s=>[bx n,mF z17,mF s.2.2])
    (fun s=>⟨.exit 0,[(1,.ptr 0 0 0 0),(2,.ptr 1 0 0 0),(3,.ptr 2 0 0 0),(4,.int .i64 16),(7,.bool false)],[bx n,mF z17,mF (vC n s.1 s.2.1 s.2.2)]⟩) (fun s=>s.1) ?_ (15,1,z17) ⟨rfl,Nat.le_refl 1,rfl⟩
   rintro ⟨k,i,f⟩ ⟨hk,hi,hf⟩
   simp only at hk hi hf ⊢
   cases k with
   | zero =>
    right
    have:i = 16:=by omega
    subst this
    refine ⟨?_,by simp⟩
    apply Run.bH
    ·(refine ⟨0,?_⟩;simp (maxSteps:=2000000) -implicitDefEqProofs [-getElem?_pos,go_sem,eqV,ah,vC])
    ·simp
   | succ k =>
    left
    refine ⟨(k,i + 1,f.set (i + 1) (IntKind.i64.wrap (IntKind.i64.wrap (f.getD i 0 + n.getD i 0) * 2))),⟨show k + (i + 1) = 16 by omega,show 1≤i + 1 by omega,by simpa using hf⟩,?_,rfl,by simp⟩
    obtain ⟨v,hv⟩:∃ v,n[i]? = some v:=⟨n[i]'(by omega),List.getElem?_eq_getElem (by omega)⟩
    obtain ⟨u,hu⟩:∃ v,f[i]? = some v:=⟨f[i]'(by omega),List.getElem?_eq_getElem (by omega)⟩
    have X6:(i:Int)≤15:=by omega
    have X7:i < 16:=by omega
    have X8:(i:Int) < 16:=by omega
    have ajP:(i:Int) < 17:=by omega
    have ajQ:i + 1 < 17:=by omega
    have ajR:i < 17:=by omega
    have hiI:(i:Int) + 1 < 17:=by omega
    have hiJ:(0:Int)≤(i:Int) + 1:=by omega
    have e4:IntKind.i64.wrap ((i:Int) + 1) = (i:Int) + 1:=wrap_i64 (by omega) (by omega)
    have e5:((i:Int) + 1).toNat = i + 1:=by omega
    apply Run.seq
    ·(refine ⟨0,?_⟩;conv=>lhs;simp (maxSteps:=2000000) -implicitDefEqProofs [-getElem?_pos,go_sem,eqV,ah,X6])
    apply Run.seq
    ·apply Run.block
     ·(refine ⟨0,?_⟩;conv=>lhs;simp (maxSteps:=2000000) -implicitDefEqProofs [-getElem?_pos,go_sem,eqV,ah,bx,mF,hn,hf,X7,X8,ajP,ajQ,ajR,hiI,hiJ,hv,hu,e4,e5,IntKind.bits])
     ·simp
    ·(refine ⟨0,?_⟩;simp (maxSteps:=2000000) -implicitDefEqProofs [-getElem?_pos,go_sem,eqV,ah,e4,List.getD_eq_getElem?_getD,hv,hu,bx,mF])
 generalize vC n 15 1 z17 = F at hlen ⊢
 have hF:F.length = 17:=hlen
 apply Run.seq
 ·(refine ⟨0,?_⟩;conv=>lhs;simp (maxSteps:=2000000) -implicitDefEqProofs [-getElem?_pos,go_sem,eqV,ah,bx,mF,z17,hF])
 ·exact ⟨0,rfl⟩
def ckV (l:List Int):AV:=.tup [.bool (oz l).1,.int .i64 (oz l).2]
theorem Sz (c:Nat) (l:List Int) (h63:l.length < 9223372036854775808):Ev1 X 73 [.ro c (.pi .i64 l) 1] [] (ckV l,[]):=by
 obtain ⟨code,hb,hr⟩:=MO c l h63
 exact Ev1.plain (l:=[.bool (oz l).1,.int .i64 (oz l).2]) Sv Try.func73 hb rfl rfl (by simp [bW]) hr (.inr rfl) rfl rfl rfl
theorem PL (n:List Int) (hn:n.length = 16):Ev1 X 75 [.agg (.pi .i64 n)] [] (.agg (.pi .i64 (kV n)),[]):=by
 obtain ⟨code,hb,hr⟩:=JU (fun _ _ _=>.none) n hn
 have hF:(kV n).length = 17:=sW _ _ _ _
 exact Ev1.plain (l:=[.agg (.pi .i64 (kV n))]) Below.none Try.func75 hb rfl rfl (by simp [bW]) hr (.inr rfl) (by
  have:Try.f75.results.toList = [.cell 2 115]:=rfl
  rw [this]
  simp [-getElem?_pos,List.getElem?_cons_zero,List.getElem?_cons_succ,aQ,tu,au,live,bx,mF,Ee,hF,uI]) rfl rfl
def S2 (f:Nat) (xs:List AV):Option (AV × AM.Heap) :=
 match f,xs with
 | 73,[.ro _ (.pi .i64 l) 1]=>if l.length < 9223372036854775808 then some (ckV l,[]) else .none
 | 75,[.agg (.pi .i64 n)]=>if n.length = 16 then some (.agg (.pi .i64 (kV n)),[]) else .none
 | f,xs=>S1 f xs
theorem abg:∀ f xs v N,S2 f xs = some (v,N)→Ev1 X f xs [] (v,N):=by
 intro f xs v N h
 unfold S2 at h
 split at h
 ·split at h
  ·rename_i hl
   simp only [Option.some.injEq,Prod.mk.injEq] at h
   obtain ⟨rfl,rfl⟩:=h
   exact Sz _ _ hl
  ·cases h
 ·split at h
  ·rename_i hl
   simp only [Option.some.injEq,Prod.mk.injEq] at h
   obtain ⟨rfl,rfl⟩:=h
   exact PL _ hl
  ·cases h
 ·exact VP _ _ _ _ h
noncomputable def T2:Cf:=yJ X S2
theorem SA:Below X T2:=uH abg
theorem PN {H:AM.Heap} {a:AV} {l:List Int} (h:gq H a = some (.pi .i64 l)) (hl:l.length < 9223372036854775808):T2 74 [a] H = some (cnt l,H):=by
 obtain ⟨c,x,hx⟩:=dS (C:=X) (f:=74) (i:=0) rfl h (bU 1)
 unfold T2 yJ
 rw [hx]
 simp [S1,S2,hl,aJ,ids,cnt,xG,qI,tags,bQ,dM,kG,ren,bZ]
theorem SB {H:AM.Heap} {a:AV} {l:List Int} (h:gq H a = some (.pi .i64 l)) (hl:l.length < 9223372036854775808):T2 73 [a] H = some (ckV l,H):=by
 obtain ⟨c,x,hx⟩:=dS (C:=X) (f:=73) (i:=0) rfl h (bU 1)
 unfold T2 yJ
 rw [hx]
 simp [S2,hl,aJ,ids,ckV,xG,qI,tags,bQ,dM,kG,ren,bZ]
theorem PO {H:AM.Heap} {n:List Int} (hn:n.length = 16):T2 75 [.agg (.pi .i64 n)] H = some (.agg (.pi .i64 (kV n)),H):=by
 unfold T2 yJ
 rw [dL (C:=X) (f:=75) (i:=0) rfl rfl (bU 1)]
 simp [S2,hn,aJ,ids,xG,qI,tags,bQ,dM,kG,ren,bZ]
end Go.Proofs.Ytbodincpjijdiaa
namespace Go.Proofs.Ytbodincpjijdiaa
open Go.AM
def jK:Option AM.Obj:=some { p:=.pi .i64 [],g:=0,cap:=.none,z:=0,row:=true,ids:=false,tg:=0 }
def dD (k:Nat) (l:List Int):Option AM.Obj:=some { p:=.pi .i64 l,g:=0,cap:=some k,z:=1,row:=true,ids:=false,tg:=0 }
def qQ:List Int→List Int→List Int
 | _,[]=>[]
 | next,x :: r=>if 0 < x then next.getD x.toNat 0 :: qQ (next.set x.toNat (IntKind.i64.wrap (next.getD x.toNat 0 + 1))) r else -1 :: qQ next r
def vF:List Int→List Int→List Int
 | next,[]=>next
 | next,x :: r=>if 0 < x then vF (next.set x.toNat (IntKind.i64.wrap (next.getD x.toNat 0 + 1))) r else vF next r
theorem DF:∀ (next l:List Int),(qQ next l).length = l.length
 | _,[]=>rfl
 | next,x :: r=>by
  simp only [qQ]
  split <;> simp [DF _ r]
def Ag (l:List Int):List Int:=qQ (kV (eP l).1) l
theorem set_mid (pre:List Int) (v w:Int) (n k:Nat) (h:k = pre.length):(pre ++ List.replicate (n + 1) v).set k w = (pre ++ [w]) ++ List.replicate n v:=by
 subst h
 rw [List.set_append_right _ _ (Nat.le_refl _),Nat.sub_self,List.replicate_succ,List.set_cons_zero]
 simp
def DI (c:Nat) (l:List Int) (i:Nat):AM.Frame:=[(8,.ptr 2 0 0 0),(9,.sl 3 0 l.length 0),(30,.ro c (.pi .i64 l) 1),(31,.int .i64 l.length),(32,.int .i64 (i:Nat))]
theorem MP (c:Nat) (l:List Int) (he:(oz l).2 = 0):∃ code,Try.f54.body = some code ∧
  Run X T2 54 0 code [(0,.ro c (.pi .i64 l) 1)] [] ⟨.ret,[(2,.sl 3 0 l.length 0),(3,.int .i64 0)],[jK,bx (eP l).1,mF (vF (kV (eP l).1) l),dD l.length (Ag l)]⟩:=by
 have hce:(eP l).2 = 0:=by
  unfold oz at he
  split at he
  ·assumption
  ·rename_i h;exact absurd he h
 obtain ⟨ajw,hall⟩:=ML hce
 have h63:l.length < 9223372036854775808:=by omega
 have hn:=vw l
 have hm1:(l.length:Int)≤9223372036854775807:=by omega
 have hm2:8 * (l.length:Int)≤140737488355328:=by omega
 have hT:=fun H=>SB (H:=H) (a:=.ro c (.pi .i64 l) 1) rfl h63
 have hC:=fun H=>PN (H:=H) (a:=.ro c (.pi .i64 l) 1) rfl h63
 have hF:=fun H=>PO (H:=H) hn
 unfold ckV at hT
 unfold cnt at hC
 unfold Ag
 rw [hce] at hC
 have hf:(kV (eP l).1).length = 17:=sW _ _ _ _
 generalize (eP l).1 = n at hn hC hF hf ⊢
 generalize kV n = JV at hF hf ⊢
 refine ⟨_,rfl,?_⟩
 apply Run.seq
 ·(refine ⟨0,?_⟩;conv=>lhs;simp (maxSteps:=2000000) -implicitDefEqProofs [-getElem?_pos,go_sem,eqV,ah,rowOf,bJ])
 apply Run.seq
 ·(refine ⟨0,?_⟩;conv=>lhs;simp (maxSteps:=2000000) -implicitDefEqProofs [-getElem?_pos,go_sem,eqV,ah,hT,he])
 apply Run.seq
 ·(refine ⟨0,?_⟩;conv=>lhs;simp (maxSteps:=2000000) -implicitDefEqProofs [-getElem?_pos,go_sem,eqV,ah,hC,hn])
 apply Run.seq
 ·(refine ⟨0,?_⟩;conv=>lhs;simp (maxSteps:=2000000) -implicitDefEqProofs [-getElem?_pos,go_sem,eqV,ah,hF,hn,hf])
 apply Run.seq (fr':=[(0,.ro c (.pi .i64 l) 1),(8,.ptr 2 0 0 0),(9,.sl 3 0 l.length 0)]) (H':=[jK,bx n,mF JV,dD l.length (List.replicate l.length 0)])
 ·(refine ⟨0,?_⟩;simp (maxSteps:=2000000) -implicitDefEqProofs [-getElem?_pos,go_sem,eqV,ah,dI,iP,dK,scalars,aJ,ids,bQ,rowOf,hm1,hm2,jK,bx,mF,dD])
 apply Run.seq (fr':=DI c l l.length ++ [(33,.bool false)]) (H':=[jK,bx n,mF (vF JV l),dD l.length (qQ JV l)])
 ·apply Run.seq (fr':=DI c l 0) (H':=[jK,bx n,mF JV,dD l.length ([] ++ List.replicate l.length 0)])
  ·(refine ⟨0,?_⟩;simp (maxSteps:=2000000) -implicitDefEqProofs [-getElem?_pos,go_sem,eqV,ah,DI])
  ·apply Run.eF
   refine Run.jD (σ:=List Int × List Int × List Int × List Int) (fun s=>s.1.length = 17∧s.2.1.length = s.2.2.1.length∧s.2.2.1 ++ s.2.2.2 = l) (fun s=>DI c l s.2.2.1.length)
    (fun s=>[jK,bx n,mF s.1,dD l.length (s.2.1 ++ List.replicate s.2.2.2.length 0)])
    (fun s=>⟨.exit 0,DI c l l.length ++ [(33,.bool false)],[jK,bx n,mF (vF s.1 s.2.2.2),dD l.length (s.2.1 ++ qQ s.1 s.2.2.2)]⟩) (fun s=>s.2.2.2.length) ?_ (JV,[],[],l) ⟨hf,rfl,rfl⟩
   rintro ⟨next,pre,done,todo⟩ ⟨hnx,hpre,hd⟩
   simp only at hnx hpre hd ⊢
   cases todo with
   | nil =>
    right
    have hlen:done.length = l.length:=by rw [← hd];simp
    refine ⟨?_,by simp⟩
    simp only [qQ,vF,List.append_nil]
    apply Run.seq
    ·(refine ⟨0,?_⟩;conv=>lhs;simp (maxSteps:=2000000) -implicitDefEqProofs [-getElem?_pos,go_sem,eqV,ah,hlen,DI])
    ·apply Run.bH
     ·exact Run.cond (d:=false) rfl ⟨0,rfl⟩
     ·simp
   | cons x todo =>
    left
    have hlt:done.length < l.length:=by rw [← hd];simp
    have hget:l[done.length]? = some x:=by rw [← hd];simp
    have hx:=hall x (by rw [← hd];simp)
    have iT:(done.length:Int) < (l.length:Int):=by omega
    have e:IntKind.i64.wrap ((done.length:Int) + 1) = (done.length:Int) + 1:=wrap_i64 (by omega) (by omega)
    have hlp:done.length < (pre ++ List.replicate (todo.length + 1) (0:Int)).length:=by simp;omega
    have hset:∀ w,(pre ++ List.replicate (todo.length + 1) 0).set done.length w = (pre ++ [w]) ++ List.replicate todo.length 0:=fun w=>set_mid pre 0 w todo.length done.length hpre.symm
    generalize hP:pre ++ List.replicate (todo.length + 1) (0:Int) = P at hlp hset
    by_cases hx0:0 < x
    ·obtain ⟨v,hv⟩:∃ v,next[x.toNat]? = some v:=⟨next[x.toNat]'(by omega),List.getElem?_eq_getElem (by omega)⟩
     have ajS:x < 17:=by omega
     have ajT:x.toNat < 17:=by omega
     refine ⟨(next.set x.toNat (IntKind.i64.wrap (v + 1)),pre ++ [v],done ++ [x],todo),⟨by simpa using hnx,by simpa using hpre,by simpa using hd⟩,?_,?_,by simp⟩
     ·apply Run.seq
      ·(refine ⟨0,?_⟩;conv=>lhs;simp (maxSteps:=2000000) -implicitDefEqProofs [-getElem?_pos,go_sem,eqV,ah,iT,DI])
      apply Run.seq
      ·exact Run.cond (d:=true) rfl ⟨0,rfl⟩
      apply Run.seq
      ·apply Run.block
       ·(refine ⟨0,?_⟩;conv=>lhs;simp (maxSteps:=2000000) -implicitDefEqProofs [-getElem?_pos,go_sem,eqV,ah,hget,hlt,jK,bx,mF,dD,hx0,hx.1,ajS,ajT,hnx,hv,hlp])
       ·simp
      ·(refine ⟨0,?_⟩;simp (maxSteps:=2000000) -implicitDefEqProofs [-getElem?_pos,go_sem,eqV,ah,e,DI,jK,bx,mF,dD,hset])
     ·simp [qQ,vF,hx0,List.getD_eq_getElem?_getD,hv]
    ·refine ⟨(next,pre ++ [-1],done ++ [x],todo),⟨hnx,by simpa using hpre,by simpa using hd⟩,?_,?_,by simp⟩
     ·apply Run.seq
      ·(refine ⟨0,?_⟩;conv=>lhs;simp (maxSteps:=2000000) -implicitDefEqProofs [-getElem?_pos,go_sem,eqV,ah,iT,DI])
      apply Run.seq
      ·exact Run.cond (d:=true) rfl ⟨0,rfl⟩
      apply Run.seq
      ·apply Run.block
       ·(refine ⟨0,?_⟩;conv=>lhs;simp (maxSteps:=2000000) -implicitDefEqProofs [-getElem?_pos,go_sem,eqV,ah,hget,hlt,jK,bx,mF,dD,hx0,hlp])
       ·simp
      ·(refine ⟨0,?_⟩;simp (maxSteps:=2000000) -implicitDefEqProofs [-getElem?_pos,go_sem,eqV,ah,e,DI,jK,bx,mF,dD,hset])
     ·simp [qQ,vF,hx0]
 apply Run.seq
 ·(refine ⟨0,?_⟩;conv=>lhs;simp (maxSteps:=2000000) -implicitDefEqProofs [-getElem?_pos,go_sem,eqV,ah,DI])
 ·exact ⟨0,rfl⟩
end Go.Proofs.Ytbodincpjijdiaa
namespace Go.Proofs.Ytbodincpjijdiaa
open Go.AM
def flL:List Int:=List.replicate 144 8 ++ List.replicate 112 9 ++ List.replicate 24 7 ++ List.replicate 8 8
def flD:List Int:=List.replicate 32 5
def flO (l:List Int):AM.Obj:=⟨.pi .i64 l,0,.none,1,true,false,0⟩
def SE:Row1:=⟨53,[],.tup [.sl 0 0 288 0,.sl 1 0 32 0],[some (flO flL),some (flO flD)]⟩
theorem SH:kH X (SE :: []):=kH.cons (CO kH.nil) kH.nil (n:=400) (by kernel_rfl)
theorem afp (H:AM.Heap):evT X 53 [] H = some (.tup [.sl H.length 0 288 0,.sl (H.length + 1) 0 32 0],H ++ [some (flO flL),some (flO flD)]):=by
 have:=dA (Ev1.frame (SH SE (List.mem_singleton.2 rfl)).1 rfl H)
 simpa [SE,dM,kG,ren,aU,uF,flO,bZ,Nat.add_comm] using this
theorem Ns {H:AM.Heap} {a:AV} {l:List Int} (h:gq H a = some (.pi .i64 l)) (he:(oz l).2 = 0):evT X 54 [a] H = some (.tup [.sl H.length 0 l.length 0,.int .i64 0],H ++ [dD l.length (Ag l)]):=by
 obtain ⟨c,x,hx⟩:=dS (C:=X) (f:=54) (i:=0) rfl h (bU 1)
 obtain ⟨code,hb,hr⟩:=MP c l he
 have:=Ev1.fresh (H:=H) (args:=[a]) (l:=[.sl 3 0 l.length 0,.int .i64 0]) (o:=3) (g:=0) SA Try.func54 hb hx rfl (by simp [bW]) hr (.inr rfl) rfl rfl rfl rfl rfl rfl rfl
 have:=dA this
 simpa [aO,fU,ren,bZ,dD,AM.fresh] using this
def lcL:List Int:=Ag flL
def dcL:List Int:=Ag flD
theorem Wx:(oz flL).2 = 0:=by kernel_rfl
theorem Wy:(oz flD).2 = 0:=by kernel_rfl
theorem jc:flL.length = 288:=by decide +kernel
theorem pY:flD.length = 32:=by decide +kernel
theorem jM (l:List Int):(Ag l).length = l.length:=DF _ l
theorem nU:∀ n,n < 259→3≤n→(lenOf n).1≤285∧257≤(lenOf n).1∧(lenOf n).2.1≤n∧n < (lenOf n).2.1 + 2 ^ (lenOf n).2.2∧(lenOf n).2.2≤5:=by decide +kernel
theorem DJ {per n:Nat}:∀ {f s base bits j:Nat},gOk per n f s base bits j = true→base≤n→base≤(gF per n f s base bits j).2.1∧(gF per n f s base bits j).2.1≤n∧n < (gF per n f s base bits j).2.1 + 2 ^ (gF per n f s base bits j).2.2
 | 0,_,_,_,_,h,_=>by cases h
 | f + 1,s,base,bits,j,h,hb=>by
  unfold gOk at h
  unfold gF
  split
  ·rename_i hj
   rw [if_pos hj] at h
   exact DJ h hb
  ·rename_i hj
   rw [if_neg hj] at h
   split
   ·rename_i hn
    exact ⟨Nat.le_refl _,hb,hn⟩
   ·rename_i hn
    rw [if_neg hn] at h
    have:=DJ h (by omega)
    exact ⟨Nat.le_trans (Nat.le_add_right _ _) this.1,this.2⟩
theorem uj {n:Nat}:∀ {f bits j:Nat},j≤2→gOk 2 n f (2 * bits + 2 + j) ((2 + j) * 2 ^ bits + 1) bits j = true→∃ b j',j' < 2∧gF 2 n f (2 * bits + 2 + j) ((2 + j) * 2 ^ bits + 1) bits j = (2 * b + 2 + j',(2 + j') * 2 ^ b + 1,b)
 | 0,_,_,_,h=>by cases h
 | f + 1,bits,j,hj,h=>by
  unfold gOk at h
  unfold gF
  by_cases h2:j = 2
  ·subst h2
   rw [if_pos rfl] at h ⊢
   have e1:2 * bits + 2 + 2 = 2 * (bits + 1) + 2 + 0:=by omega
   have e2:(2 + 2) * 2 ^ bits + 1 = (2 + 0) * 2 ^ (bits + 1) + 1:=by rw [Nat.pow_succ];omega
   rw [e1,e2] at h ⊢
   exact uj (by omega) h
  ·rw [if_neg h2] at h ⊢
   split
   ·exact ⟨bits,j,by omega,rfl⟩
   ·rename_i hn
    rw [if_neg hn] at h
    have e1:2 * bits + 2 + j + 1 = 2 * bits + 2 + (j + 1):=by omega
    have e2:(2 + j) * 2 ^ bits + 1 + 2 ^ bits = (2 + (j + 1)) * 2 ^ bits + 1:=by
     rw [show 2 + (j + 1) = (2 + j) + 1 by omega,Nat.succ_mul]
     omega
    rw [e1,e2] at h ⊢
    exact uj (by omega) h
theorem jL {n:Nat} (h1:1≤n) (h:n≤32768):(bG n).1≤29∧(bG n).2.1≤n∧n < (bG n).2.1 + 2 ^ (bG n).2.2∧(bG n).2.2≤13:=by
 unfold bG
 by_cases h4:n≤4
 ·rw [if_pos h4]
  simp
  omega
 ·rw [if_neg h4]
  obtain ⟨_,a2,a3⟩:=DJ (BU h) (by omega)
  obtain ⟨b,j,hj,he⟩:=uj (n:=n) (f:=40) (bits:=1) (j:=0) (by omega) (BU h)
  have he':gF 2 n 40 4 5 1 0 = (2 * b + 2 + j,(2 + j) * 2 ^ b + 1,b):=he
  rw [he'] at a2 a3 ⊢
  simp only at a2 a3 ⊢
  have hb:b≤13:=by
   refine Classical.byContradiction fun hc=>?_
   have hp:2 ^ 14≤2 ^ b:=Nat.pow_le_pow_right (by omega) (by omega)
   have:2 * 2 ^ b≤(2 + j) * 2 ^ b:=Nat.mul_le_mul_right _ (by omega)
   omega
  exact ⟨by omega,a2,a3,hb⟩
end Go.Proofs.Ytbodincpjijdiaa
namespace Go.Proofs.Ytbodincpjijdiaa
open Go.AM
theorem qA:∀ y,y < 288→0≤flL.getD y 0∧flL.getD y 0≤9:=by decide +kernel
theorem BN:∀ y,y < 32→0≤flD.getD y 0∧flD.getD y 0≤9:=by decide +kernel
theorem iZ {l:List Int} {y:Nat} (h:y < l.length):l[y]? = some (l.getD y 0):=by
 rw [List.getD_eq_getElem?_getD,List.getElem?_eq_getElem h];rfl
def iY (s:Ws) (cs ls:List Int) (y:Nat):Ws:=lN s (cs.getD y 0) (ls.getD y 0).toNat
def pxW (s:Ws) (x:Px):Ws :=
 if x.len = 0 then iY s lcL flL x.byte.toNat else
  bI (iY (bI (iY s lcL flL (lenOf x.len.toNat).1) (x.len - ((lenOf x.len.toNat).2.1:Nat)) (lenOf x.len.toNat).2.2) dcL flD (bG x.dist.toNat).1) (x.dist - ((bG x.dist.toNat).2.1:Nat)) (bG x.dist.toNat).2.2
def BX (l:List Px):Ws:=iY (l.foldl pxW (bI (bI ⟨0,[]⟩ 1 1) 1 2)) lcL flL 256
def iF (l:List Px):List UInt8 × Int:=if (iy l []).2 ≠ 0 then ([],(iy l []).2) else ((BX l).o,0)
structure FxV (E:AM.Heap) (o6 o7 o8 o10 o12:Nat) (oa:Option Nat) (s:Ws):Prop where
 r6:E[o6]? = some (some (flO flL))
 r7:E[o7]? = some (some (flO flD))
 r8:E[o8]? = some (dD 288 lcL)
 r10:E[o10]? = some (dD 32 dcL)
 wr:WrV 0 E o12 oa s
 lt:o6 < o12∧o7 < o12∧o8 < o12∧o10 < o12
 oa:∀ a,oa = some a→o12 < a
 ok:gQ s
section
variable {E:AM.Heap} {o6 o7 o8 o10 o12:Nat} {oa:Option Nat} {s:Ws}
theorem WrV.lt' (h:WrV 0 E o12 oa s):o12 < E.length:=h.lt.1
theorem FxV.step {E':AM.Heap} {oa':Option Nat} {s':Ws} (h:FxV E o6 o7 o8 o10 o12 oa s) (hw:WrV 0 E' o12 oa' s') (hk:Kpw E E' o12 oa oa') (hok:gQ s'):FxV E' o6 o7 o8 o10 o12 oa' s':=by
 obtain ⟨l6,l7,l8,l10⟩:=h.lt
 have hl:=h.wr.lt'
 have keep:∀ j,j < o12→E'[j]? = E[j]?:=fun j hj=>hk.rest j (by omega) (by omega) fun a ha=>by have:=h.oa a ha;omega
 refine ⟨by rw [keep _ l6];exact h.r6,by rw [keep _ l7];exact h.r7,by rw [keep _ l8];exact h.r8,by rw [keep _ l10];exact h.r10,hw,h.lt,?_,hok⟩
 intro a ha
 cases hq:oa with
 | none=>have:=hk.new a hq ha;omega
 | some z =>
  have:=hk.same z hq
  rw [ha] at this
  cases this
  exact h.oa _ hq
theorem FxV.cat (r:AM.Heap) (h:FxV E o6 o7 o8 o10 o12 oa s):FxV (E ++ r) o6 o7 o8 o10 o12 oa s:=by
 obtain ⟨l6,l7,l8,l10⟩:=h.lt
 have hl:=h.wr.lt'
 have keep:∀ j,j < o12→(E ++ r)[j]? = E[j]?:=fun j hj=>List.getElem?_append_left (by omega)
 exact ⟨by rw [keep _ l6];exact h.r6,by rw [keep _ l7];exact h.r7,by rw [keep _ l8];exact h.r8,by rw [keep _ l10];exact h.r10,h.wr.cat,h.lt,h.oa,h.ok⟩
def mQ (o6 o7 o8 o10 o12 c:Nat) (l:List Px) (i:Nat):AM.Frame:=[(6,.sl o6 0 288 0),(7,.sl o7 0 32 0),(8,.sl o8 0 288 0),(10,.sl o10 0 32 0),(12,.ptr o12 0 0 0),(46,.ro c (.pr 3 (l.map pxR)) 1),(47,.int .i64 (l.length:Nat)),(48,.int .i64 (i:Nat))]
def wF (o6 o7 o8 o10 o12 q c:Nat) (l:List Px) (i:Nat):AM.Frame:=[(6,.sl o6 0 288 0),(7,.sl o7 0 32 0),(8,.sl o8 0 288 0),(10,.sl o10 0 32 0),(12,.ptr o12 0 0 0),(14,.ptr q 0 0 0),(46,.ro c (.pr 3 (l.map pxR)) 1),(47,.int .i64 (l.length:Nat)),(48,.int .i64 (i:Nat))]
theorem iq {cs ls:List Int} {y:Nat} (h:gQ s):gQ (iY s cs ls y)∧(iY s cs ls y).k = s.k + (ls.getD y 0).toNat:=BR _ h
theorem V4 {m i q c:Nat} {x:Px} {l:List Px} {tl:AM.Frame} (h:FxV E o6 o7 o8 o10 o12 oa s) (hl:s.k≤7000000) (hq:E[q]? = some (some (pxO x))):∃ E' oa',FxV E' o6 o7 o8 o10 o12 oa' (iY s lcL flL x.byte.toNat)∧Kpw E E' o12 oa oa'∧∃ code,((Try.f42.body).bind (aF [1,1,1,1,1,1,1,1,0,1,0,0,1,1,0,0,1,0,1,0,0])) = some code∧Run X (evT X) 42 m code (wF o6 o7 o8 o10 o12 q c l i ++ tl) E ⟨.normal,mQ o6 o7 o8 o10 o12 c l i,E'⟩:=by
 have hy:=x.byte.toNat_lt
 have hy2:x.byte.toNat < 288:=by omega
 obtain ⟨n0,n9⟩:=qA _ hy2
 have hc:=iZ (l:=lcL) (y:=x.byte.toNat) (by unfold lcL;rw [jM,jc];exact hy2)
 have hf:=iZ (l:=flL) (y:=x.byte.toNat) (by rw [jc];exact hy2)
 obtain ⟨E',oa',g1,g2,g3⟩:=yA (x:=lcL.getD x.byte.toNat 0) (I:=flL.getD x.byte.toNat 0) (n:=(flL.getD x.byte.toNat 0).toNat) (by omega) h.wr h.ok (by omega) (by omega)
 have hs:=iq (cs:=lcL) (ls:=flL) (y:=x.byte.toNat) h.ok
 refine ⟨E',oa',h.step g2 g3 hs.1,g3,_,rfl,?_⟩
 have q6:=h.r6;have q8:=h.r8
 have hyI:(x.byte.toNat:Int) < 288:=by omega
 simp only [flO,dD,pxO,pxR] at q6 q8 hq
 simp only [wF,mQ]
 generalize lcL.getD x.byte.toNat 0 = v1 at *
 generalize flL.getD x.byte.toNat 0 = v2 at *
 generalize l.map pxR = R at *
 generalize l.length = N at *
 generalize lcL = LC at *
 generalize flL = LL at *
 (refine ⟨0,?_⟩;simp (maxSteps:=2000000) -implicitDefEqProofs [-getElem?_pos,go_sem,eqV,ah,retag,q6,q8,hq,hyI,hy2,hc,hf,g1])
end
end Go.Proofs.Ytbodincpjijdiaa
namespace Go.Proofs.Ytbodincpjijdiaa
open Go.AM
def JW (o6 o7 o8 o10 o12 q u v w c:Nat) (l:List Px) (i:Nat):AM.Frame:=[(6,.sl o6 0 288 0),(7,.sl o7 0 32 0),(8,.sl o8 0 288 0),(10,.sl o10 0 32 0),(12,.ptr o12 0 0 0),(14,.ptr q 0 0 0),(15,.int .i64 (u:Nat)),(16,.int .i64 (v:Nat)),(17,.int .i64 (w:Nat)),(46,.ro c (.pr 3 (l.map pxR)) 1),(47,.int .i64 (l.length:Nat)),(48,.int .i64 (i:Nat))]
def JX (o6 o7 o8 o10 o12 q v w c:Nat) (l:List Px) (i:Nat):AM.Frame:=[(6,.sl o6 0 288 0),(7,.sl o7 0 32 0),(8,.sl o8 0 288 0),(10,.sl o10 0 32 0),(12,.ptr o12 0 0 0),(14,.ptr q 0 0 0),(16,.int .i64 (v:Nat)),(17,.int .i64 (w:Nat)),(46,.ro c (.pr 3 (l.map pxR)) 1),(47,.int .i64 (l.length:Nat)),(48,.int .i64 (i:Nat))]
section
variable {E:AM.Heap} {o6 o7 o8 o10 o12:Nat} {oa:Option Nat} {s:Ws}
theorem V5 {m i q c n:Nat} {x:Px} {l:List Px} {tl:AM.Frame} (hn:x.len = (n:Nat)) (MQ:n≤258) (hq:E[q]? = some (some (pxO x))):∃ code,((Try.f42.body).bind (aF [1,1,1,1,1,1,1,1,0,1,0,0,1,1,0,0,1,1,0])) = some code∧Run X (evT X) 42 m code (wF o6 o7 o8 o10 o12 q c l i ++ tl) E ⟨.normal,JW o6 o7 o8 o10 o12 q (lenOf n).1 (lenOf n).2.1 (lenOf n).2.2 c l i,E⟩:=by
 refine ⟨_,rfl,?_⟩
 have hL:=PG (H:=E) MQ
 simp only [pxO,pxR,hn] at hq
 simp only [wF,JW]
 generalize lenOf n = R3 at *
 generalize l.map pxR = R at *
 generalize l.length = N at *
 (refine ⟨0,?_⟩;simp (maxSteps:=2000000) -implicitDefEqProofs [-getElem?_pos,go_sem,eqV,ah,hq,hL,ak])
theorem V8 {m i q c n:Nat} {x:Px} {l:List Px} (hn:x.dist = (n:Nat)) (h1:1≤n) (h2:n≤32768) (hq:E[q]? = some (some (pxO x))):∃ code,((Try.f42.body).bind (aF [1,1,1,1,1,1,1,1,0,1,0,0,1,1,0,0,1,1,1,1,1,0])) = some code∧Run X (evT X) 42 m code (wF o6 o7 o8 o10 o12 q c l i) E ⟨.normal,JW o6 o7 o8 o10 o12 q (bG n).1 (bG n).2.1 (bG n).2.2 c l i,E⟩:=by
 refine ⟨_,rfl,?_⟩
 have hL:=JQ (H:=E) h1 h2
 simp only [pxO,pxR,hn] at hq
 simp only [wF,JW]
 generalize bG n = R3 at *
 generalize l.map pxR = R at *
 generalize l.length = N at *
 (refine ⟨0,?_⟩;simp (maxSteps:=2000000) -implicitDefEqProofs [-getElem?_pos,go_sem,eqV,ah,hq,hL,ak])
theorem V6 {m i q u v w c:Nat} {l:List Px} (h:FxV E o6 o7 o8 o10 o12 oa s) (hl:s.k≤7000000) (hu:u < 288):∃ E' oa',FxV E' o6 o7 o8 o10 o12 oa' (iY s lcL flL u)∧Kpw E E' o12 oa oa'∧∃ code,((Try.f42.body).bind (aF [1,1,1,1,1,1,1,1,0,1,0,0,1,1,0,0,1,1,1,0])) = some code∧Run X (evT X) 42 m code (JW o6 o7 o8 o10 o12 q u v w c l i) E ⟨.normal,JX o6 o7 o8 o10 o12 q v w c l i,E'⟩:=by
 obtain ⟨n0,n9⟩:=qA _ hu
 have hc:=iZ (l:=lcL) (y:=u) (by unfold lcL;rw [jM,jc];exact hu)
 have hf:=iZ (l:=flL) (y:=u) (by rw [jc];exact hu)
 obtain ⟨E',oa',g1,g2,g3⟩:=yA (x:=lcL.getD u 0) (I:=flL.getD u 0) (n:=(flL.getD u 0).toNat) (by omega) h.wr h.ok (by omega) (by omega)
 have hs:=iq (cs:=lcL) (ls:=flL) (y:=u) h.ok
 refine ⟨E',oa',h.step g2 g3 hs.1,g3,_,rfl,?_⟩
 have q6:=h.r6;have q8:=h.r8
 have huI:(u:Int) < 288:=by omega
 simp only [flO,dD] at q6 q8
 simp only [JW,JX]
 generalize lcL.getD u 0 = v1 at *
 generalize flL.getD u 0 = v2 at *
 generalize l.map pxR = R at *
 generalize l.length = N at *
 generalize lcL = LC at *
 generalize flL = LL at *
 (refine ⟨0,?_⟩;simp (maxSteps:=2000000) -implicitDefEqProofs [-getElem?_pos,go_sem,eqV,ah,retag,q6,q8,huI,hu,hc,hf,g1])
theorem V9 {m i q u v w c:Nat} {l:List Px} (h:FxV E o6 o7 o8 o10 o12 oa s) (hl:s.k≤7000000) (hu:u < 32):∃ E' oa',FxV E' o6 o7 o8 o10 o12 oa' (iY s dcL flD u)∧Kpw E E' o12 oa oa'∧∃ code,((Try.f42.body).bind (aF [1,1,1,1,1,1,1,1,0,1,0,0,1,1,0,0,1,1,1,1,1,1,0])) = some code∧Run X (evT X) 42 m code (JW o6 o7 o8 o10 o12 q u v w c l i) E ⟨.normal,JX o6 o7 o8 o10 o12 q v w c l i,E'⟩:=by
 obtain ⟨n0,n9⟩:=BN _ hu
 have hc:=iZ (l:=dcL) (y:=u) (by unfold dcL;rw [jM,pY];exact hu)
 have hf:=iZ (l:=flD) (y:=u) (by rw [pY];exact hu)
 obtain ⟨E',oa',g1,g2,g3⟩:=yA (x:=dcL.getD u 0) (I:=flD.getD u 0) (n:=(flD.getD u 0).toNat) (by omega) h.wr h.ok (by omega) (by omega)
 have hs:=iq (cs:=dcL) (ls:=flD) (y:=u) h.ok
 refine ⟨E',oa',h.step g2 g3 hs.1,g3,_,rfl,?_⟩
 have q6:=h.r7;have q8:=h.r10
 have huI:(u:Int) < 32:=by omega
 simp only [flO,dD] at q6 q8
 simp only [JW,JX]
 generalize dcL.getD u 0 = v1 at *
 generalize flD.getD u 0 = v2 at *
 generalize l.map pxR = R at *
 generalize l.length = N at *
 generalize dcL = LC at *
 generalize flD = LL at *
 (refine ⟨0,?_⟩;simp (maxSteps:=2000000) -implicitDefEqProofs [-getElem?_pos,go_sem,eqV,ah,retag,q6,q8,huI,hu,hc,hf,g1])
theorem V7 {m i q v w c n:Nat} {x:Px} {l:List Px} (h:FxV E o6 o7 o8 o10 o12 oa s) (hl:s.k≤7000000) (hn:x.len = (n:Nat)) (hn2:n≤100000) (hv:v≤n) (hw:w≤60) (hq:E[q]? = some (some (pxO x))):∃ E' oa',FxV E' o6 o7 o8 o10 o12 oa' (bI s (x.len - (v:Nat)) w)∧Kpw E E' o12 oa oa'∧∃ code,((Try.f42.body).bind (aF [1,1,1,1,1,1,1,1,0,1,0,0,1,1,0,0,1,1,1,1,0])) = some code∧Run X (evT X) 42 m code (JX o6 o7 o8 o10 o12 q v w c l i) E ⟨.normal,wF o6 o7 o8 o10 o12 q c l i,E'⟩:=by
 obtain ⟨E',oa',g1,g2,g3⟩:=mV (x:=x.len - (v:Nat)) (I:=(w:Nat)) (n:=w) rfl h.wr h.ok (by omega) hw
 refine ⟨E',oa',h.step g2 g3 (bV h.ok w).1,g3,_,rfl,?_⟩
 rw [hn] at g1
 have w1:IntKind.i64.wrap ((n:Int) - (v:Int)) = (n:Int) - (v:Int):=by rw [wrap_i64 (by omega) (by omega)]
 simp only [pxO,pxR,hn] at hq
 simp only [JX,wF]
 generalize l.map pxR = R at *
 generalize l.length = N at *
 (refine ⟨0,?_⟩;simp (maxSteps:=2000000) -implicitDefEqProofs [-getElem?_pos,go_sem,eqV,ah,hq,w1,g1])
theorem Wh {m i q v w c n:Nat} {x:Px} {l:List Px} (h:FxV E o6 o7 o8 o10 o12 oa s) (hl:s.k≤7000000) (hn:x.dist = (n:Nat)) (hn2:n≤100000) (hv:v≤n) (hw:w≤60) (hq:E[q]? = some (some (pxO x))):∃ E' oa',FxV E' o6 o7 o8 o10 o12 oa' (bI s (x.dist - (v:Nat)) w)∧Kpw E E' o12 oa oa'∧∃ code,((Try.f42.body).bind (aF [1,1,1,1,1,1,1,1,0,1,0,0,1,1,0,0,1,1,1,1,1,1,1])) = some code∧Run X (evT X) 42 m code (JX o6 o7 o8 o10 o12 q v w c l i) E ⟨.normal,mQ o6 o7 o8 o10 o12 c l i,E'⟩:=by
 obtain ⟨E',oa',g1,g2,g3⟩:=mV (x:=x.dist - (v:Nat)) (I:=(w:Nat)) (n:=w) rfl h.wr h.ok (by omega) hw
 refine ⟨E',oa',h.step g2 g3 (bV h.ok w).1,g3,_,rfl,?_⟩
 rw [hn] at g1
 have w1:IntKind.i64.wrap ((n:Int) - (v:Int)) = (n:Int) - (v:Int):=by rw [wrap_i64 (by omega) (by omega)]
 simp only [pxO,pxR,hn] at hq
 simp only [JX,mQ]
 generalize l.map pxR = R at *
 generalize l.length = N at *
 (refine ⟨0,?_⟩;simp (maxSteps:=2000000) -implicitDefEqProofs [-getElem?_pos,go_sem,eqV,ah,hq,w1,g1])
end
end Go.Proofs.Ytbodincpjijdiaa
