/- E6 to EF: texts of this claim, one behind the other; what each shows stands at its head. -/
import Derived.Test.YtbodincpjijdiaaMg5
set_option linter.unusedSimpArgs false
set_option linter.unusedVariables false
set_option maxRecDepth 100000
set_option maxHeartbeats 8000000
namespace Go.Proofs.Ytbodincpjijdiaa
open Go.AM
def oN (v:AV) (c:Nat) (l:List Px) (i:Nat):AM.Frame:=[(4,v),(7,.ro c (.pr 3 (l.map pxR)) 1),(8,.int .i64 (l.length:Nat)),(9,.int .i64 (i:Nat))]
def kV (v:AV) (q c:Nat) (l:List Px) (i:Nat):AM.Frame:=[(4,v),(6,.ptr q 0 0 0),(7,.ro c (.pr 3 (l.map pxR)) 1),(8,.int .i64 (l.length:Nat)),(9,.int .i64 (i:Nat))]
theorem acC (l:List AV):mX X 91 l = some (.pc l):=agf l
theorem xC (d:Nat):∀ (n:Nat) (o:List UInt8),(kY d n o).length = o.length + n
 | 0,o=>rfl
 | n + 1,o=>by rw [kY,xC d n];simp;omega
section
variable {c:Nat} {l:List Px}
theorem agj {m i:Nat} {x:Px} {v:AV} {E:AM.Heap} (hx:l[i]? = some x) (hl:l.length≤100000):∃ code,((Try.f52.body).bind (aB [1,1,0,1,0,0,1,1,0,0,0])) = some code∧Run X (evT X) 52 m code (oN v c l i ++ [(10,.bool true)]) E ⟨.normal,kV v E.length c l i,E ++ [some (pxO x)]⟩:=by
 refine ⟨_,rfl,?_⟩
 have hx':(l.map pxR)[i]? = some (pxR x):=by rw [atI,hx];rfl
 have hi:=dR hx
 have hiI:(i:Int) < (l.length:Int):=by omega
 have hll:(l.map pxR).length = l.length:=by simp
 simp only [oN,kV,pxO,pxR] at hx' ⊢
 generalize l.map pxR = R at *
 generalize l.length = N at *
 (refine ⟨0,?_⟩;simp [-getElem?_pos,go_sem,eqV,ah,hx',hi,hiI,hll,acC,ng,retag,Bq,xB,splice,jq,scalars,scalar])
theorem agk {m i q:Nat} {x:Px} {v:AV} {E:AM.Heap} (hq:E[q]? = some (some (pxO x))):∃ code,((Try.f52.body).bind (aB [1,1,0,1,0,0,1,1,0,0,1,0,0])) = some code∧Run X (evT X) 52 m code (kV v q c l i) E ⟨.normal,kV v q c l i ++ [(15,.bool (!nN x))],E⟩:=by
 refine ⟨_,rfl,?_⟩
 have hM:=acB E x
 generalize nN x = d at *
 simp only [kV,pxO,pxR] at hq hM ⊢
 generalize l.map pxR = R at *
 generalize l.length = N at *
 cases d <;> (refine ⟨0,?_⟩;simp [-getElem?_pos,go_sem,eqV,ah,hq,hM,acC,ng,retag])
theorem ES:bZ X 5 = .pb []:=by kernel_rfl
theorem agl {m i q N g:Nat} {x:Px} {v:AV} {tl:AM.Frame} {E E':AM.Heap} (hq:E[q]? = some (some (pxO x))) (hA:bH X E 22 v (.ro 1 (.pb [x.byte]) 0) = some (.sl 1 0 N g,E')):∃ code,((Try.f52.body).bind (aB [1,1,0,1,0,0,1,1,0,0,1,1,0,1,0,0])) = some code∧Run X (evT X) 52 m code (kV v q c l i ++ tl) E ⟨.normal,oN (.sl 1 0 N g) c l i,E'⟩:=by
 refine ⟨_,rfl,?_⟩
 have hbs:=bsW E x.byte
 simp only [kV,oN,pxO,pxR] at hq ⊢
 generalize l.map pxR = R at *
 generalize l.length = N at *
 (refine ⟨0,?_⟩;simp [-getElem?_pos,go_sem,eqV,ah,hq,hA,hbs,ak])
theorem agm {m i q g:Nat} {x:Px} {o:List UInt8} {ob:AM.Obj} {tl:AM.Frame} {E:AM.Heap} (hq:E[q]? = some (some (pxO x))) (ho:E[1]? = some (some ob)) (hw:Rw (.pb o) g ob):∃ code,((Try.f52.body).bind (aB [1,1,0,1,0,0,1,1,0,0,1,1,1,0,0])) = some code∧Run X (evT X) 52 m code (kV (.sl 1 0 o.length g) q c l i ++ tl) E ⟨.normal,kV (.sl 1 0 o.length g) q c l i ++ [(28,.bool (decide ((o.length:Int) < x.dist)))],E⟩:=by
 refine ⟨_,rfl,?_⟩
 have hg:=hw.g
 simp only [kV,pxO,pxR] at hq ⊢
 generalize l.map pxR = R at *
 generalize l.length = N at *
 generalize o.length = K at *
 by_cases h:(K:Int) < x.dist
 ·rw [decide_eq_true h]
  (refine ⟨0,?_⟩;simp [-getElem?_pos,go_sem,eqV,ah,hq,ho,hg,h])
 ·rw [decide_eq_false h]
  (refine ⟨0,?_⟩;simp [-getElem?_pos,go_sem,eqV,ah,hq,ho,hg,h])
def xk (v:AV) (q c:Nat) (l:List Px) (i n j:Nat):AM.Frame:=[(4,v),(6,.ptr q 0 0 0),(7,.ro c (.pr 3 (l.map pxR)) 1),(8,.int .i64 (l.length:Nat)),(9,.int .i64 (i:Nat)),(30,.int .i64 (n:Nat)),(31,.int .i64 (j:Nat))]
theorem acD {m i q n j g d:Nat} {x:Px} {o:List UInt8} {ob:AM.Obj} {tl:AM.Frame} {E:AM.Heap} (hq:E[q]? = some (some (pxO x))) (hd:x.dist = (d:Nat)) (hd1:1≤d) (hd2:d≤o.length) (ho:E[1]? = some (some ob)) (hw:Rw (.pb o) g ob) (hol:o.length≤1000000) :
  ∃ ob',Rw (.pb (o ++ [o.getD (o.length - d) 0])) (g + 1) ob'∧∃ code,((Try.f52.body).bind (aB [1,1,0,1,0,0,1,1,0,0,1,1,1,1,1,0,0,1,1,0,0])) = some code∧Run X (evT X) 52 m code (xk (.sl 1 0 o.length g) q c l i n j ++ tl) E ⟨.normal,xk (.sl 1 0 (o.length + 1) (g + 1)) q c l i n j,upd E 1 (some ob')⟩:=by
 have hy:o[o.length - d]? = some (o.getD (o.length - d) 0):=by
  rw [atH,atB (by omega)];rfl
 generalize o.getD (o.length - d) 0 = y at *
 obtain ⟨ob',w1,w2⟩:=BL (C:=X) (T:=22) (e:=5) (H:=E) (o:=1) (m:=[y]) (src:=.ro 1 (.pb [y]) 0) nR DN qx bytes5 yh ho hw (.inl (by simp [iC,jW,mO])) (by simp;omega)
 refine ⟨ob',w1,_,rfl,?_⟩
 have hbs:=bsW E y
 have q1:=hw.p;have q2:=hw.g;have q4:=hw.ids;have q5:=hw.tg
 have w3:IntKind.i64.wrap ((o.length:Int) - (d:Int)) = ((o.length - d:Nat):Int):=by rw [wrap_i64 (by omega) (by omega)];omega
 have hlt:o.length - d < o.length:=by omega
 have qQ:((o.length - d:Nat):Int) < (o.length:Int):=by omega
 simp only [avp] at w2
 simp only [xk,pxO,pxR,hd] at hq ⊢
 generalize l.map pxR = R at *
 generalize l.length = N at *
 generalize o.length - d = kd at *
 generalize hK:o.length = K at *
 generalize K + 1 = K1 at *
 (refine ⟨0,?_⟩;simp [-getElem?_pos,go_sem,eqV,ah,hq,ho,q1,q2,q4,q5,w3,hy,hlt,qQ,hbs,w2,hK,ak])
end
section
variable {c:Nat} {l:List Px}
theorem aam {m i q n g d:Nat} {x:Px} {o:List UInt8} {ob:AM.Obj} {E:AM.Heap} (hq:E[q]? = some (some (pxO x))) (hq1:q ≠ 1) (hd:x.dist = (d:Nat)) (hd1:1≤d) (hd2:d≤o.length) (ho:E[1]? = some (some ob)) (hw:Rw (.pb o) g ob) (hol:o.length + n≤1000000) :
  ∃ code,((Try.f52.body).bind (aB [1,1,0,1,0,0,1,1,0,0,1,1,1,1,1])) = some code∧aj (Goes fun fr E'=>∃ g' ob',cO [4,7,8,9] fr = oN (.sl 1 0 (kY d n o).length g') c l i∧E'[1]? = some (some ob')∧Rw (.pb (kY d n o)) g' ob') X (evT X) 52 m code (xk (.sl 1 0 o.length g) q c l i n 0) E:=by
 refine ⟨_,rfl,?_⟩
 apply aj.block
 refine aj.kQ (I:=fun k fr E'=>∃ j o' g' ob',j≤n∧k = n - j∧fr = xk (.sl 1 0 o'.length g') q c l i n j∧E'[q]? = some (some (pxO x))∧E'[1]? = some (some ob')∧Rw (.pb o') g' ob'∧o'.length = o.length + j∧kY d (n - j) o' = kY d n o) ?_ (k:=n) ⟨0,o,g,ob,by omega,rfl,rfl,hq,ho,hw,rfl,rfl⟩
 rintro k fr E' ⟨j,o',g',ob',hj,rfl,rfl,hq',ho',hw',hlen,hc⟩
 by_cases hjn:j = n
 ·subst hjn
  rw [avK] at hc
  refine aj.of (o:=⟨.exit 2,xk (.sl 1 0 o'.length g') q c l i j j ++ [(32,.bool false)],E'⟩) ?_ (.inr ⟨by simp,rfl,g',ob',by rw [← hc];simp [xk,oN,cO,ay,kY],ho',by rw [← hc];exact hw'⟩)
  refine ⟨0,?_⟩
  simp only [xk]
  generalize l.map pxR = R at *
  generalize l.length = N at *
  generalize o'.length = K at *
  simp [-getElem?_pos,go_sem,eqV,ah]
 ·have hlt:j < n:=by omega
  have qQ:(j:Int) < (n:Int):=by omega
  obtain ⟨ob2,w1,hr⟩:=acD (m:=m) (c:=c) (l:=l) (i:=i) (n:=n) (j:=j) (tl:=[(32,.bool true)]) hq' hd hd1 (by omega) ho' hw' (by omega)
  have hn1:n - j = (n - (j + 1)) + 1:=by omega
  rw [hn1,kY] at hc
  refine aj.of (o:=⟨.normal,xk (.sl 1 0 (o'.length + 1) (g' + 1)) q c l i n (j + 1),upd E' 1 (some ob2)⟩) ?_ (.inl ⟨rfl,n - (j + 1),by omega,j + 1,o' ++ [o'.getD (o'.length - d) 0],g' + 1,ob2,by omega,rfl,by simp,qO hq' (auf hq1),setAt ho',w1,by simp;omega,hc⟩)
  apply Run.seq (fr':=xk (.sl 1 0 o'.length g') q c l i n j ++ [(32,.bool true)]) (H':=E')
  ·simp only [xk]
   generalize l.map pxR = R at *
   generalize l.length = N at *
   generalize o'.length = K at *
   (refine ⟨0,?_⟩;simp [-getElem?_pos,go_sem,eqV,ah,qQ,hlt])
  apply Run.seq (fr':=xk (.sl 1 0 o'.length g') q c l i n j ++ [(32,.bool true)]) (H':=E')
  ·exact Run.cond (d:=true) (by simp [xk,aJ,ay]) ⟨0,rfl⟩
  apply Run.seq (fr':=xk (.sl 1 0 (o'.length + 1) (g' + 1)) q c l i n j) (H':=upd E' 1 (some ob2))
  ·apply Run.block
   ·exact piece hr _ rfl
   ·simp
  ·have w4:IntKind.i64.wrap ((j:Int) + 1) = ((j + 1:Nat):Int):=by rw [wrap_i64 (by omega) (by omega)];omega
   generalize j + 1 = j1 at *
   simp only [xk]
   generalize l.map pxR = R at *
   generalize l.length = N at *
   generalize o'.length + 1 = K at *
   (refine ⟨0,?_⟩;simp [-getElem?_pos,go_sem,eqV,ah,w4])
def exX (l:List Px) (fr:AM.Frame) (E:AM.Heap):Prop:=∃ o e a g ob,kF l [] = (o,e)∧ay fr 2 = .sl a 0 o.length g∧ay fr 3 = .int .i64 e∧E[a]? = some (some ob)∧Rw (.pb o) g ob
theorem KD {x:Px} (h:nN x = true) (h0:¬ x.len = 0):∃ n d:Nat,x.len = n∧x.dist = d∧3≤n∧n≤258∧1≤d:=by
 unfold nN at h
 rw [if_neg h0] at h
 simp at h
 exact ⟨x.len.toNat,x.dist.toNat,by omega,by omega,by omega,by omega,by omega⟩
theorem aan {m i g:Nat} {x:Px} {o:List UInt8} {ob:AM.Obj} {E:AM.Heap} (hx:l[i]? = some x) (hl:l.length≤2000) (ho:E[1]? = some (some ob)) (hw:Rw (.pb o) g ob) (hol:o.length≤258 * i) (he:kF (l.drop i) o = kF l []) :
  ∃ code,((Try.f52.body).bind (aB [1,1,0,1,0,0,1,1])) = some code∧aj (fun out=>(out.ex = .normal∧∃ o' g' ob',out.fr = oN (.sl 1 0 o'.length g') c l (i + 1)∧out.H[1]? = some (some ob')∧Rw (.pb o') g' ob'∧o'.length≤258 * (i + 1)∧kF (l.drop (i + 1)) o' = kF l [])∨(out.ex = .ret∧exX l out.fr out.H)) X (evT X) 52 m code (oN (.sl 1 0 o.length g) c l i ++ [(10,.bool true)]) E:=by
 refine ⟨_,rfl,?_⟩
 have hi:=dR hx
 have hdrop:l.drop i = x :: l.drop (i + 1):=by
  rw [auw hi]
  rw [atB hi] at hx
  rw [atK hx]
 rw [hdrop,kF] at he
 have hg:=hw.g
 have hE1:=dR ho
 have hq:(E ++ [some (pxO x)])[E.length]? = some (some (pxO x)):=by simp
 have ho2:(E ++ [some (pxO x)])[1]? = some (some ob):=by rw [atE hE1];exact ho
 have hr4:=agj (m:=m) (c:=c) (v:=.sl 1 0 o.length g) (E:=E) hx (by omega)
 have hq1:E.length ≠ 1:=by omega
 generalize E ++ [some (pxO x)] = E0 at *
 generalize E.length = q at *
 have hr5:=agk (m:=m) (c:=c) (l:=l) (i:=i) (v:=.sl 1 0 o.length g) hq
 have w1:IntKind.i64.wrap ((i:Int) + 1) = ((i + 1:Nat):Int):=by rw [wrap_i64 (by omega) (by omega)];omega
 by_cases hm:nN x = false
 ·rw [if_pos hm] at he
  rw [hm] at hr5
  refine aj.of (o:=⟨.ret,[(2,.sl E0.length 0 0 0),(3,.int .i64 2)],E0 ++ [some (⟨.pb [],0,none,0,true,false,0⟩:AM.Obj)]⟩) ?_ (.inr ⟨rfl,[],2,E0.length,0,_,he.symm,rfl,rfl,auh,⟨rfl,rfl,rfl,rfl,rfl⟩⟩)
  refine Run.bI ?_ (by simp)
  refine Run.block ?_ (by simp)
  apply Run.seq (piece hr4 _ rfl)
  refine Run.bI ?_ (by simp)
  apply Run.seq (piece hr5 _ rfl)
  refine Run.cond (d:=true) (by simp [kV,aJ,ay]) ?_
  apply Run.seq (fr':=[(2,.sl E0.length 0 0 0),(3,.int .i64 2)]) (H':=E0 ++ [some (⟨.pb [],0,none,0,true,false,0⟩:AM.Obj)])
  ·simp only [kV]
   generalize l.map pxR = R at *
   generalize l.length = N at *
   generalize o.length = K at *
   (refine ⟨0,?_⟩;simp [-getElem?_pos,go_sem,eqV,ah,ak,rowOf,ES])
  ·exact ⟨0,rfl⟩
 have hmt:nN x = true:=by simpa using hm
 rw [if_neg hm] at he
 rw [hmt] at hr5
 by_cases h0:x.len = 0
 ·rw [if_pos h0] at he
  obtain ⟨ob',k1,k2⟩:=BL (C:=X) (T:=22) (e:=5) (H:=E0) (o:=1) (m:=[x.byte]) (src:=.ro 1 (.pb [x.byte]) 0) nR DN qx bytes5 yh ho2 hw (.inl (by simp [iC,jW,mO])) (by simp;omega)
  simp only [avp] at k2
  have hr8:=agl (m:=m) (c:=c) (l:=l) (i:=i) (tl:=[(18,.bool true)]) hq k2
  refine aj.of (o:=⟨.normal,oN (.sl 1 0 (o.length + 1) (g + 1)) c l (i + 1),upd E0 1 (some ob')⟩) ?_ (.inl ⟨rfl,o ++ [x.byte],g + 1,ob',by simp,setAt ho2,k1,by simp;omega,he⟩)
  apply Run.seq (fr':=oN (.sl 1 0 (o.length + 1) (g + 1)) c l i) (H':=upd E0 1 (some ob'))
  ·refine Run.iL ?_
   apply Run.seq (piece hr4 _ rfl)
   apply Run.seq (fr':=kV (.sl 1 0 o.length g) q c l i ++ [(15,.bool false)]) (H':=E0)
   ·apply Run.seq (piece hr5 _ rfl)
    exact Run.cond (d:=false) (by simp [kV,aJ,ay]) ⟨0,rfl⟩
   refine Run.bI ?_ (by simp)
   apply Run.seq (fr':=kV (.sl 1 0 o.length g) q c l i ++ [(18,.bool true)]) (H':=E0)
   ·simp only [kV,pxO,pxR,h0] at hq ⊢
    generalize l.map pxR = R at *
    generalize l.length = N at *
    generalize o.length = K at *
    (refine ⟨0,?_⟩;simp [-getElem?_pos,go_sem,eqV,ah,hq])
   refine Run.cond (d:=true) (by simp [kV,aJ,ay]) ?_
   exact Run.seq (piece hr8 _ rfl) ⟨0,rfl⟩
  ·simp only [oN]
   generalize l.map pxR = R at *
   generalize l.length = N at *
   generalize o.length + 1 = K at *
   generalize i + 1 = i1 at *
   (refine ⟨0,?_⟩;simp [-getElem?_pos,go_sem,eqV,ah,w1])
 rw [if_neg h0] at he
 obtain ⟨n,d,hn,hd,n3,n258,d1⟩:=KD hmt h0
 have hr9:=agm (m:=m) (c:=c) (l:=l) (i:=i) (x:=x) (tl:=[(18,.bool false)]) hq ho2 hw
 have hr7:∃ code,((Try.f52.body).bind (aB [1,1,0,1,0,0,1,1,0,0,1,1,0,0])) = some code∧Run X (evT X) 52 m code (kV (.sl 1 0 o.length g) q c l i ++ [(15,.bool false)]) E0 ⟨.normal,kV (.sl 1 0 o.length g) q c l i ++ [(18,.bool false)],E0⟩:=by
  refine ⟨_,rfl,?_⟩
  have h0b:(x.len == 0) = false:=by simpa using h0
  simp only [kV,pxO,pxR] at hq ⊢
  generalize l.map pxR = R at *
  generalize l.length = N at *
  generalize o.length = K at *
  (refine ⟨0,?_⟩;simp [-getElem?_pos,go_sem,eqV,ah,hq,h0,h0b])
 by_cases hbig:(o.length:Int) < x.dist
 ·rw [if_pos hbig] at he
  rw [decide_eq_true hbig] at hr9
  refine aj.of (o:=⟨.ret,[(2,.sl E0.length 0 0 0),(3,.int .i64 5)],E0 ++ [some (⟨.pb [],0,none,0,true,false,0⟩:AM.Obj)]⟩) ?_ (.inr ⟨rfl,[],5,E0.length,0,_,he.symm,rfl,rfl,auh,⟨rfl,rfl,rfl,rfl,rfl⟩⟩)
  refine Run.bI ?_ (by simp)
  refine Run.block ?_ (by simp)
  apply Run.seq (piece hr4 _ rfl)
  apply Run.seq (fr':=kV (.sl 1 0 o.length g) q c l i ++ [(15,.bool false)]) (H':=E0)
  ·apply Run.seq (piece hr5 _ rfl)
   exact Run.cond (d:=false) (by simp [kV,aJ,ay]) ⟨0,rfl⟩
  apply Run.seq (fr':=kV (.sl 1 0 o.length g) q c l i ++ [(18,.bool false)]) (H':=E0)
  ·apply Run.seq (piece hr7 _ rfl)
   exact Run.cond (d:=false) (by simp [kV,aJ,ay]) ⟨0,rfl⟩
  refine Run.bI ?_ (by simp)
  apply Run.seq (piece hr9 _ rfl)
  refine Run.cond (d:=true) (by simp [kV,aJ,ay]) ?_
  apply Run.seq (fr':=[(2,.sl E0.length 0 0 0),(3,.int .i64 5)]) (H':=E0 ++ [some (⟨.pb [],0,none,0,true,false,0⟩:AM.Obj)])
  ·simp only [kV]
   generalize l.map pxR = R at *
   generalize l.length = N at *
   generalize o.length = K at *
   (refine ⟨0,?_⟩;simp [-getElem?_pos,go_sem,eqV,ah,ak,rowOf,ES])
  ·exact ⟨0,rfl⟩
 rw [if_neg hbig,hn,hd] at he
 simp only [auy] at he
 rw [decide_eq_false hbig] at hr9
 have hcl:=xC d n o
 obtain ⟨aaP,hcB,⟨⟨ex,fr,E2⟩,⟨he2,g',ob',hfr,ho',hw'⟩,hrB⟩⟩:=aam (m:=m) (c:=c) (l:=l) (i:=i) (n:=n) hq hq1 hd d1 (by omega) ho2 hw (by omega)
 simp only at he2 hfr ho'
 subst he2
 refine aj.of (o:=⟨.normal,oN (.sl 1 0 (kY d n o).length g') c l (i + 1),E2⟩) ?_ (.inl ⟨rfl,kY d n o,g',ob',rfl,ho',hw',by rw [hcl];omega,he⟩)
 apply Run.seq (fr':=fr) (H':=E2)
 ·refine Run.block ?_ (by simp)
  apply Run.seq (piece hr4 _ rfl)
  apply Run.seq (fr':=kV (.sl 1 0 o.length g) q c l i ++ [(15,.bool false)]) (H':=E0)
  ·apply Run.seq (piece hr5 _ rfl)
   exact Run.cond (d:=false) (by simp [kV,aJ,ay]) ⟨0,rfl⟩
  apply Run.seq (fr':=kV (.sl 1 0 o.length g) q c l i ++ [(18,.bool false)]) (H':=E0)
  ·apply Run.seq (piece hr7 _ rfl)
   exact Run.cond (d:=false) (by simp [kV,aJ,ay]) ⟨0,rfl⟩
  apply Run.seq (fr':=kV (.sl 1 0 o.length g) q c l i ++ [(28,.bool false)]) (H':=E0)
  ·apply Run.seq (piece hr9 _ rfl)
   exact Run.cond (d:=false) (by simp [kV,aJ,ay]) ⟨0,rfl⟩
  apply Run.seq (fr':=xk (.sl 1 0 o.length g) q c l i n 0) (H':=E0)
  ·simp only [kV,xk,pxO,pxR,hn] at hq ⊢
   generalize l.map pxR = R at *
   generalize l.length = N at *
   generalize o.length = K at *
   (refine ⟨0,?_⟩;simp [-getElem?_pos,go_sem,eqV,ah,hq])
  ·exact (atK hcB) ▸ hrB
 ·have g4:ay fr 4 = .sl 1 0 (kY d n o).length g':=by simpa [cO,oN,ay] using congrArg (fun f=>ay f 4) hfr
  have g7:ay fr 7 = .ro c (.pr 3 (l.map pxR)) 1:=by simpa [cO,oN,ay] using congrArg (fun f=>ay f 7) hfr
  have g8:ay fr 8 = .int .i64 (l.length:Nat):=by simpa [cO,oN,ay] using congrArg (fun f=>ay f 8) hfr
  have g9:ay fr 9 = .int .i64 (i:Nat):=by simpa [cO,oN,ay] using congrArg (fun f=>ay f 9) hfr
  simp only [oN]
  generalize l.map pxR = R at *
  generalize l.length = N at *
  generalize (kY d n o).length = K at *
  generalize i + 1 = i1 at *
  (refine ⟨0,?_⟩;simp [-getElem?_pos,go_sem,eqV,ah,g4,g7,g8,g9,w1])
end
section
variable {c:Nat} {l:List Px}
theorem N8 {m:Nat} (hl:l.length≤2000):∃ code,Try.f52.body = some code∧aj (nK (exX l)) X (evT X) 52 m code [(0,.ro c (.pr 3 (l.map pxR)) 1)] []:=by
 refine ⟨_,rfl,?_⟩
 apply aj.seq (fr':=[(0,.ro c (.pr 3 (l.map pxR)) 1)]) (H':=[some (⟨.pb [],0,none,0,true,false,0⟩:AM.Obj)])
 ·generalize l.map pxR = R at *
  (refine ⟨0,?_⟩;simp [-getElem?_pos,go_sem,eqV,ah,ak,rowOf,ES])
 apply aj.seq (fr':=[(0,.ro c (.pr 3 (l.map pxR)) 1),(4,.sl 1 0 0 0)]) (H':=[some (⟨.pb [],0,none,0,true,false,0⟩:AM.Obj),some (⟨.pb [],0,none,0,true,false,0⟩:AM.Obj)])
 ·generalize l.map pxR = R at *
  (refine ⟨0,?_⟩;simp [-getElem?_pos,go_sem,eqV,ah,ak,rowOf,ES])
 have hE:([some (⟨.pb [],0,none,0,true,false,0⟩:AM.Obj),some (⟨.pb [],0,none,0,true,false,0⟩:AM.Obj)]:AM.Heap)[1]? = some (some ⟨.pb [],0,none,0,true,false,0⟩):=rfl
 generalize [some (⟨.pb [],0,none,0,true,false,0⟩:AM.Obj),some (⟨.pb [],0,none,0,true,false,0⟩:AM.Obj)] = E0 at *
 apply aj.assoc
 apply aj.seq (fr':=oN (.sl 1 0 0 0) c l 0) (H':=E0)
 ·have hll:(l.map pxR).length = l.length:=by simp
  simp only [oN]
  generalize l.map pxR = R at *
  generalize l.length = N at *
  (refine ⟨0,?_⟩;simp [-getElem?_pos,go_sem,eqV,ah,hll])
 refine aj.Ho (P:=fun fr E=>∃ o g ob,kF l [] = (o,0)∧ay fr 4 = .sl 1 0 o.length g∧E[1]? = some (some ob)∧Rw (.pb o) g ob) ?_ ?_
 ·refine aj.kQ (I:=fun k fr E'=>∃ i o g ob,i≤l.length∧k = l.length - i∧fr = oN (.sl 1 0 o.length g) c l i∧E'[1]? = some (some ob)∧Rw (.pb o) g ob∧o.length≤258 * i∧kF (l.drop i) o = kF l []) ?_ (k:=l.length) ⟨0,[],0,_,by omega,rfl,rfl,hE,⟨rfl,rfl,rfl,rfl,rfl⟩,by simp,rfl⟩
  rintro k fr E' ⟨i,o,g,ob,hi,rfl,rfl,ho,hw,hol,he⟩
  by_cases hin:i = l.length
  ·rw [avl (by omega),kF] at he
   refine aj.of (o:=⟨.exit 0,oN (.sl 1 0 o.length g) c l i ++ [(10,.bool false)],E'⟩) ?_ (.inr ⟨by simp,.inl ⟨rfl,o,g,ob,he.symm,by simp [oN,ay],ho,hw⟩⟩)
   subst hin
   refine ⟨0,?_⟩
   simp only [oN]
   generalize l.map pxR = R at *
   generalize l.length = N at *
   generalize o.length = K at *
   simp [-getElem?_pos,go_sem,eqV,ah]
  ·have hlt:i < l.length:=by omega
   have qQ:(i:Int) < (l.length:Int):=by omega
   obtain ⟨x,hx⟩:∃ x,l[i]? = some x:=⟨_,atB hlt⟩
   apply aj.seq (fr':=oN (.sl 1 0 o.length g) c l i ++ [(10,.bool true)]) (H':=E')
   ·simp only [oN]
    generalize l.map pxR = R at *
    generalize l.length = N at *
    generalize o.length = K at *
    (refine ⟨0,?_⟩;simp [-getElem?_pos,go_sem,eqV,ah,qQ,hlt])
   apply aj.seq (fr':=oN (.sl 1 0 o.length g) c l i ++ [(10,.bool true)]) (H':=E')
   ·exact Run.cond (d:=true) (by simp [oN,aJ,ay]) ⟨0,rfl⟩
   refine (piece (aan (m:=m) (c:=c) hx hl ho hw hol he) _ rfl).mono ?_
   rintro out (⟨h1,o',g',ob',h2,h3,h4,h5,h6⟩ | ⟨h1,h2⟩)
   ·exact .inl ⟨h1,l.length - (i + 1),by omega,i + 1,o',g',ob',by omega,rfl,h2,h3,h4,h5,h6⟩
   ·exact .inr ⟨by rw [h1];simp,.inr ⟨h1,h1,h2⟩⟩
 ·rintro fr E' ⟨o,g,ob,he,h4,ho,hw⟩
  refine aj.of (o:=⟨.ret,[(2,.sl 1 0 o.length g),(3,.int .i64 0)],E'⟩) ?_ ⟨rfl,o,0,1,g,ob,he,rfl,rfl,ho,hw⟩
  refine ⟨0,?_⟩
  generalize o.length = K at *
  simp [-getElem?_pos,go_sem,eqV,ah,h4,ak]
theorem Sm {H:AM.Heap} {a:AV} (ha:fC H a = some (.pr 3 (l.map pxR))) (hl:l.length≤2000):∃ ob,Rw (.pb (kF l []).1) 0 ob∧evT X 52 [a] H = some (.tup [.sl H.length 0 (kF l []).1.length 0,.int .i64 (kF l []).2],H ++ [some ob]):=by
 obtain ⟨c,x,hx⟩:=gV (C:=X) (f:=52) (i:=0) rfl ha (dW 1)
 obtain ⟨code,hc,⟨out,⟨ho,o,e,a2,g,ob,h1,h2,h3,h4,hw⟩,hrun⟩⟩:=N8 (m:=0) (c:=c) (l:=l) hl
 rw [h1]
 obtain ⟨ob',q1,q2⟩:=Ev1.KQ (C:=X) (H:=H) (bJ X) (n:=o.length) (l:=o) (rest:=[.int .i64 e]) Try.func52 hc hx rfl (by simp [dn]) rfl rfl rfl (by
  rw [adJ]
  refine ⟨out,⟨ho,a2,g,ob,?_,h4,hw⟩,hrun⟩
  show aP X out.fr out.H [.tmp 2,.tmp 3] = _
  simp [aP,h2,h3])
 exact ⟨ob',q1,dQ (by simpa [aN,dP] using q2)⟩
end
def gF (per n:Nat):Nat→Nat→Nat→Nat→Nat→Nat × Nat × Nat
 | 0,s,base,bits,_=>(s,base,bits)
 | f + 1,s,base,bits,j=>if j = per then gF per n f s base (bits + 1) 0 else if n < base + 2 ^ bits then (s,base,bits) else gF per n f (s + 1) (base + 2 ^ bits) bits (j + 1)
def gOk (per n:Nat):Nat→Nat→Nat→Nat→Nat→Bool
 | 0,_,_,_,_=>false
 | f + 1,s,base,bits,j=>if j = per then gOk per n f s base (bits + 1) 0 else if n < base + 2 ^ bits then true else gOk per n f (s + 1) (base + 2 ^ bits) bits (j + 1)
def dM (n s base bits:Nat):AM.Frame:=[(0,.int .i64 (n:Nat)),(2,.int .i64 (s:Nat)),(3,.int .i64 (base:Nat)),(4,.int .i64 (bits:Nat))]
theorem Yl {bits:Nat} (h:bits≤40):IntKind.i64.wrap (2 ^ min bits 64) = ((2 ^ bits:Nat):Int):=by
 rw [auR (by omega)]
 have h1:2 ^ bits≤2 ^ 40:=auk (by omega) h
 have h2:(2:Int) ^ bits = ((2 ^ bits:Nat):Int):=by push_cast;rfl
 rw [h2]
 generalize 2 ^ bits = u at *
 exact wrap_i64 (by omega) (by omega)
theorem aao {m n s base bits j:Nat} {E:AM.Heap} (hn:n≤100000) (hs:s≤1000) (xq:bits≤40) (hb:base≤n + 100000) (hj:j < 4) :
  ∃ code,((Try.f57.body).bind (aB [1,1,1,1,1,0,0,0,0,1,0,0,1,1])) = some code∧Run X (evT X) 57 m code (dM n s base bits ++ [(15,.int .i64 (j:Nat)),(16,.bool true)]) E (if n < base + 2 ^ bits then ⟨.ret,[(2,.int .i64 (s:Nat)),(3,.int .i64 (base:Nat)),(4,.int .i64 (bits:Nat))],E⟩ else ⟨.normal,dM n (s + 1) (base + 2 ^ bits) bits ++ [(15,.int .i64 (j + 1:Nat))],E⟩):=by
 refine ⟨_,rfl,?_⟩
 have h1:2 ^ bits≤2 ^ 40:=auk (by omega) xq
 have hp:=Yl xq
 generalize 2 ^ bits = pw at *
 have hb0:¬ (bits:Int) < 0:=by omega
 have w1:IntKind.i64.wrap ((base:Int) + ((pw:Nat):Int)) = ((base + pw:Nat):Int):=by rw [wrap_i64 (by omega) (by omega)];omega
 have w2:IntKind.i64.wrap ((s:Int) + 1) = ((s + 1:Nat):Int):=by rw [wrap_i64 (by omega) (by omega)];omega
 have w3:IntKind.i64.wrap ((j:Int) + 1) = ((j + 1:Nat):Int):=by rw [wrap_i64 (by omega) (by omega)];omega
 by_cases h:n < base + pw
 ·rw [if_pos h]
  have hI:(n:Int) < ((base + pw:Nat):Int):=by omega
  generalize base + pw = nb at *
  refine Run.bI ?_ (by simp)
  refine Run.block ?_ (by simp)
  refine Run.bI ?_ (by simp)
  apply Run.seq (fr':=dM n s base bits ++ [(15,.int .i64 (j:Nat)),(22,.bool true)]) (H':=E)
  ·simp only [dM]
   (refine ⟨0,?_⟩;simp [-getElem?_pos,go_sem,eqV,ah,hp,hb0,w1,hI,h])
  refine Run.cond (d:=true) (by simp [dM,aJ,ay]) ?_
  apply Run.seq (fr':=[(2,.int .i64 (s:Nat)),(3,.int .i64 (base:Nat)),(4,.int .i64 (bits:Nat))]) (H':=E)
  ·simp only [dM]
   (refine ⟨0,?_⟩;simp [-getElem?_pos,go_sem,eqV,ah,ak])
  ·exact ⟨0,rfl⟩
 ·rw [if_neg h]
  have hI:¬ (n:Int) < ((base + pw:Nat):Int):=by omega
  generalize base + pw = nb at *
  generalize s + 1 = s1 at *
  generalize j + 1 = j1 at *
  apply Run.seq (fr':=dM n s1 nb bits ++ [(15,.int .i64 (j:Nat))]) (H':=E)
  ·refine Run.block ?_ (by simp)
   apply Run.seq (fr':=dM n s base bits ++ [(15,.int .i64 (j:Nat)),(22,.bool false)]) (H':=E)
   ·apply Run.seq (fr':=dM n s base bits ++ [(15,.int .i64 (j:Nat)),(22,.bool false)]) (H':=E)
    ·simp only [dM]
     (refine ⟨0,?_⟩;simp [-getElem?_pos,go_sem,eqV,ah,hp,hb0,w1,hI,h])
    ·exact Run.cond (d:=false) (by simp [dM,aJ,ay]) ⟨0,rfl⟩
   ·simp only [dM]
    (refine ⟨0,?_⟩;simp [-getElem?_pos,go_sem,eqV,ah,hp,hb0,w1,w2,ak])
  ·simp only [dM]
   (refine ⟨0,?_⟩;simp [-getElem?_pos,go_sem,eqV,ah,w3])
def lnR (R:Nat × Nat × Nat):AM.Frame:=[(2,.int .i64 (R.1:Nat)),(3,.int .i64 (R.2.1:Nat)),(4,.int .i64 (R.2.2:Nat))]
theorem agn {m n s base bits f:Nat} {R:Nat × Nat × Nat} {E:AM.Heap} (hn:n≤100000) (hs:s + f≤900) (xq:bits + f≤41) (hb:base≤n + 100000) (hok:gOk 4 n f s base bits 0 = true) (hR:gF 4 n f s base bits 0 = R) :
  ∃ code,((Try.f57.body).bind (aB [1,1,1,1,1,0,0,0,0,1])) = some code∧aj (fun o=>(o.ex = .normal∧o.H = E∧∃ s' base' f',f' < f∧s' + f'≤900∧bits + 1 + f'≤41∧base'≤n + 100000∧cO [0,2,3,4] o.fr = dM n s' base' bits∧gOk 4 n f' s' base' (bits + 1) 0 = true∧gF 4 n f' s' base' (bits + 1) 0 = R)∨(o.ex = .ret∧o.fr = lnR R∧o.H = E)) X (evT X) 57 m code (dM n s base bits ++ [(15,.int .i64 (0:Nat))]) E:=by
 refine ⟨_,rfl,?_⟩
 refine aj.mono (aj.JG (P:=fun fr H=>H = E∧∃ s' base' f',f' < f∧s' + f'≤900∧bits + 1 + f'≤41∧base'≤n + 100000∧cO [0,2,3,4] fr = dM n s' base' bits∧gOk 4 n f' s' base' (bits + 1) 0 = true∧gF 4 n f' s' base' (bits + 1) 0 = R) (Q:=fun o=>o.ex = .ret∧o.fr = lnR R∧o.H = E) ?_) ?_
 ·refine aj.kQ (I:=fun k fr H=>∃ s' base' j,k≤f∧s' + k≤900∧base'≤n + 100000∧j≤4∧fr = dM n s' base' bits ++ [(15,.int .i64 (j:Nat))]∧H = E∧gOk 4 n k s' base' bits j = true∧gF 4 n k s' base' bits j = R) ?_ (k:=f) ⟨s,base,0,by omega,hs,hb,by omega,rfl,rfl,hok,hR⟩
  rintro k fr H ⟨s',base',j,hk,hsk,hb',hj,rfl,rfl,hok',hR'⟩
  cases k with
  | zero=>simp [gOk] at hok'
  | succ k =>
   rw [gOk] at hok'
   rw [gF] at hR'
   by_cases hj4:j = 4
   ·subst hj4
    rw [if_pos rfl] at hok' hR'
    refine aj.of (o:=⟨.exit 2,dM n s' base' bits ++ [(15,.int .i64 (4:Nat)),(16,.bool false)],H⟩) ?_ (.inr ⟨by simp,.inl ⟨rfl,rfl,s',base',k,by omega,by omega,by omega,hb',by simp [dM,cO,ay],hok',hR'⟩⟩)
    refine ⟨0,?_⟩
    simp only [dM]
    simp [-getElem?_pos,go_sem,eqV,ah]
   ·rw [if_neg hj4] at hok' hR'
    have hjl:j < 4:=by omega
    have hjI:(j:Int) < 4:=by omega
    have hst:=aao (m:=m) (E:=H) (s:=s') (base:=base') (bits:=bits) (j:=j) hn (by omega) (by omega) hb' hjl
    by_cases hlt:n < base' + 2 ^ bits
    ·rw [if_pos hlt] at hok' hR' hst
     subst hR'
     refine aj.of (o:=⟨.ret,lnR (s',base',bits),H⟩) ?_ (.inr ⟨by simp,.inr ⟨rfl,rfl,rfl,rfl⟩⟩)
     apply Run.seq (fr':=dM n s' base' bits ++ [(15,.int .i64 (j:Nat)),(16,.bool true)]) (H':=H)
     ·simp only [dM]
      (refine ⟨0,?_⟩;simp [-getElem?_pos,go_sem,eqV,ah,hjI,hjl])
     apply Run.seq (fr':=dM n s' base' bits ++ [(15,.int .i64 (j:Nat)),(16,.bool true)]) (H':=H)
     ·exact Run.cond (d:=true) (by simp [dM,aJ,ay]) ⟨0,rfl⟩
     exact piece hst _ rfl
    ·rw [if_neg hlt] at hok' hR' hst
     refine aj.of (o:=⟨.normal,dM n (s' + 1) (base' + 2 ^ bits) bits ++ [(15,.int .i64 (j + 1:Nat))],H⟩) ?_ (.inl ⟨rfl,k,by omega,s' + 1,base' + 2 ^ bits,j + 1,by omega,by omega,by omega,by omega,rfl,rfl,hok',hR'⟩)
     apply Run.seq (fr':=dM n s' base' bits ++ [(15,.int .i64 (j:Nat)),(16,.bool true)]) (H':=H)
     ·simp only [dM]
      (refine ⟨0,?_⟩;simp [-getElem?_pos,go_sem,eqV,ah,hjI,hjl])
     apply Run.seq (fr':=dM n s' base' bits ++ [(15,.int .i64 (j:Nat)),(16,.bool true)]) (H':=H)
     ·exact Run.cond (d:=true) (by simp [dM,aJ,ay]) ⟨0,rfl⟩
     exact piece hst _ rfl
 ·rintro o (⟨h1,h2⟩ | ⟨h1,h2⟩)
  ·exact .inl ⟨h1,h2⟩
  ·exact .inr h2
def lenOf (n:Nat):Nat × Nat × Nat:=if n = 258 then (285,n,0) else if n≤10 then (254 + n,n,0) else gF 4 n 40 265 11 1 0
theorem Bc {per n n':Nat} (h:n≤n'):∀ (f s base bits j:Nat),gOk per n' f s base bits j = true→gOk per n f s base bits j = true
 | 0,_,_,_,_,h1=>by cases h1
 | f + 1,s,base,bits,j,h1=>by
  unfold gOk at h1 ⊢
  split
  ·rename_i hj
   rw [if_pos hj] at h1
   exact Bc h f _ _ _ _ h1
  ·rename_i hj
   rw [if_neg hj] at h1
   split
   ·rfl
   ·rename_i hn
    rw [if_neg (by omega)] at h1
    exact Bc h f _ _ _ _ h1
theorem acE {n:Nat} (h:n≤258):gOk 4 n 40 265 11 1 0 = true:=Bc h _ _ _ _ _ (by decide +kernel)
theorem N9 {m n:Nat} {E:AM.Heap} (h:n≤258):∃ code,Try.f57.body = some code∧aj (fun o=>o.ex = .ret∧o.fr = lnR (lenOf n)∧o.H = E) X (evT X) 57 m code [(0,.int .i64 (n:Nat))] E:=by
 refine ⟨_,rfl,?_⟩
 unfold lenOf
 apply aj.seq (fr':=[(0,.int .i64 (n:Nat))]) (H':=E)
 ·(refine ⟨0,?_⟩;simp [-getElem?_pos,go_sem,eqV,ah,ak])
 by_cases h1:n = 258
 ·subst h1
  rw [if_pos rfl]
  refine aj.of (o:=⟨.ret,lnR (285,258,0),E⟩) ?_ ⟨rfl,rfl,rfl⟩
  refine ⟨0,?_⟩
  simp only [lnR]
  simp [-getElem?_pos,go_sem,eqV,ah,ak]
 have h1I:¬ (n:Int) = 258:=by omega
 have h1b:((n:Int) == 258) = false:=by simpa using h1I
 rw [if_neg h1]
 apply aj.assoc
 apply aj.seq (fr':=[(0,.int .i64 (n:Nat)),(6,.bool false)]) (H':=E)
 ·(refine ⟨0,?_⟩;simp [-getElem?_pos,go_sem,eqV,ah,h1,h1I,h1b])
 apply aj.seq (fr':=[(0,.int .i64 (n:Nat)),(6,.bool false)]) (H':=E)
 ·exact Run.cond (d:=false) (by simp [aJ,ay]) ⟨0,rfl⟩
 by_cases h2:n≤10
 ·rw [if_pos h2]
  have h2I:(n:Int)≤10:=by omega
  have w1:IntKind.i64.wrap (254 + (n:Int)) = ((254 + n:Nat):Int):=by rw [wrap_i64 (by omega) (by omega)];omega
  refine aj.of (o:=⟨.ret,lnR (254 + n,n,0),E⟩) ?_ ⟨rfl,rfl,rfl⟩
  refine ⟨0,?_⟩
  simp only [lnR]
  generalize 254 + n = s at *
  simp [-getElem?_pos,go_sem,eqV,ah,h2,h2I,w1,ak]
 rw [if_neg h2]
 have h2I:¬ (n:Int)≤10:=by omega
 apply aj.assoc
 apply aj.seq (fr':=[(0,.int .i64 (n:Nat)),(9,.bool false)]) (H':=E)
 ·(refine ⟨0,?_⟩;simp [-getElem?_pos,go_sem,eqV,ah,h2,h2I])
 apply aj.seq (fr':=[(0,.int .i64 (n:Nat)),(9,.bool false)]) (H':=E)
 ·exact Run.cond (d:=false) (by simp [aJ,ay]) ⟨0,rfl⟩
 apply aj.seq (fr':=[(0,.int .i64 (n:Nat)),(2,.int .i64 265),(3,.int .i64 11)]) (H':=E)
 ·(refine ⟨0,?_⟩;simp [-getElem?_pos,go_sem,eqV,ah,ak])
 apply aj.seq (fr':=dM n 265 11 1) (H':=E)
 ·simp only [dM]
  (refine ⟨0,?_⟩;simp [-getElem?_pos,go_sem,eqV,ah,ak])
 refine aj.blk ?_ (fun o ho=>by rw [ho.1];simp)
 refine aj.kQ (I:=fun k fr H=>∃ s base bits,s + k≤900∧bits + k≤41∧base≤n + 100000∧fr = dM n s base bits∧H = E∧gOk 4 n k s base bits 0 = true∧gF 4 n k s base bits 0 = gF 4 n 40 265 11 1 0) ?_ (k:=40) ⟨265,11,1,by omega,by omega,by omega,rfl,rfl,acE h,rfl⟩
 rintro k fr H ⟨s,base,bits,hs,xq,hb,rfl,rfl,hok,hR⟩
 generalize gF 4 n 40 265 11 1 0 = R at *
 have h8:∃ code,((Try.f57.body).bind (aB [1,1,1,1,1,0,0,0,0,0])) = some code∧Run X (evT X) 57 m code (dM n s base bits) H ⟨.normal,dM n s base bits ++ [(15,.int .i64 (0:Nat))],H⟩:=by
  refine ⟨_,rfl,?_⟩
  simp only [dM]
  (refine ⟨0,?_⟩;simp [-getElem?_pos,go_sem,eqV,ah])
 obtain ⟨aaP,hcB,⟨ex,fr,H2⟩,hq,hrB⟩:=agn (m:=m) (E:=H) (by omega) hs xq hb hok hR
 rcases hq with ⟨h3,h4,s',base',f',k1,k2,k3,k4,k5,k6,k7⟩ | ⟨h3,h4,h5⟩
 ·simp only at h3 h4 k5
  subst h3 h4
  have g0:ay fr 0 = .int .i64 (n:Nat):=by simpa [cO,dM,ay] using congrArg (fun f=>ay f 0) k5
  have g2:ay fr 2 = .int .i64 (s':Nat):=by simpa [cO,dM,ay] using congrArg (fun f=>ay f 2) k5
  have g3:ay fr 3 = .int .i64 (base':Nat):=by simpa [cO,dM,ay] using congrArg (fun f=>ay f 3) k5
  have g4:ay fr 4 = .int .i64 (bits:Nat):=by simpa [cO,dM,ay] using congrArg (fun f=>ay f 4) k5
  refine aj.of (o:=⟨.normal,dM n s' base' (bits + 1),H2⟩) ?_ (.inl ⟨rfl,f',k1,s',base',bits + 1,k2,k3,k4,rfl,rfl,k6,k7⟩)
  apply Run.seq (fr':=fr) (H':=H2)
  ·refine Run.block ?_ (by simp)
   exact Run.seq (piece h8 _ rfl) ((atK hcB) ▸ hrB)
  ·have w1:IntKind.i64.wrap ((bits:Int) + 1) = ((bits + 1:Nat):Int):=by rw [wrap_i64 (by omega) (by omega)];omega
   generalize bits + 1 = b1 at *
   simp only [dM]
   (refine ⟨0,?_⟩;simp [-getElem?_pos,go_sem,eqV,ah,g0,g2,g3,g4,w1,ak])
 ·simp only at h3 h4 h5
  subst h3 h4 h5
  refine aj.of (o:=⟨.ret,lnR R,H2⟩) ?_ (.inr ⟨by simp,rfl,rfl,rfl⟩)
  refine Run.bI ?_ (by simp)
  refine Run.block ?_ (by simp)
  exact Run.seq (piece h8 _ rfl) ((atK hcB) ▸ hrB)
theorem Us {n:Nat} {H:AM.Heap} (h:n≤258):evT X 57 [.int .i64 (n:Nat)] H = some (.tup [.int .i64 ((lenOf n).1:Nat),.int .i64 ((lenOf n).2.1:Nat),.int .i64 ((lenOf n).2.2:Nat)],H):=by
 obtain ⟨code,hc,⟨out,⟨h1,h2,h3⟩,hr⟩⟩:=N9 (m:=0) (E:=[]) h
 have hx:=fV (C:=X) (f:=57) (i:=0) (a:=.int .i64 (n:Nat)) (H:=H) rfl rfl (dW 1)
 refine dQ (Ev1.tY (l:=[.int .i64 ((lenOf n).1:Nat),.int .i64 ((lenOf n).2.1:Nat),.int .i64 ((lenOf n).2.2:Nat)]) (bJ X) Try.func57 hc hx rfl (by simp [dn]) rfl rfl rfl ?_)
 rw [adK]
 refine ⟨out,⟨h1,?_⟩,hr⟩
 show aP X out.fr out.H [.tmp 2,.tmp 3,.tmp 4] = _
 rw [h2]
 rfl
theorem aap {m n s base bits j:Nat} {E:AM.Heap} (hn:n≤100000) (hs:s≤1000) (xq:bits≤40) (hb:base≤n + 100000) (hj:j < 2) :
  ∃ code,((Try.f58.body).bind (aB [1,1,1,1,0,0,0,0,1,0,0,1,1])) = some code∧Run X (evT X) 58 m code (dM n s base bits ++ [(12,.int .i64 (j:Nat)),(13,.bool true)]) E (if n < base + 2 ^ bits then ⟨.ret,[(2,.int .i64 (s:Nat)),(3,.int .i64 (base:Nat)),(4,.int .i64 (bits:Nat))],E⟩ else ⟨.normal,dM n (s + 1) (base + 2 ^ bits) bits ++ [(12,.int .i64 (j + 1:Nat))],E⟩):=by
 refine ⟨_,rfl,?_⟩
 have h1:2 ^ bits≤2 ^ 40:=auk (by omega) xq
 have hp:=Yl xq
 generalize 2 ^ bits = pw at *
 have hb0:¬ (bits:Int) < 0:=by omega
 have w1:IntKind.i64.wrap ((base:Int) + ((pw:Nat):Int)) = ((base + pw:Nat):Int):=by rw [wrap_i64 (by omega) (by omega)];omega
 have w2:IntKind.i64.wrap ((s:Int) + 1) = ((s + 1:Nat):Int):=by rw [wrap_i64 (by omega) (by omega)];omega
 have w3:IntKind.i64.wrap ((j:Int) + 1) = ((j + 1:Nat):Int):=by rw [wrap_i64 (by omega) (by omega)];omega
 by_cases h:n < base + pw
 ·rw [if_pos h]
  have hI:(n:Int) < ((base + pw:Nat):Int):=by omega
  generalize base + pw = nb at *
  refine Run.bI ?_ (by simp)
  refine Run.block ?_ (by simp)
  refine Run.bI ?_ (by simp)
  apply Run.seq (fr':=dM n s base bits ++ [(12,.int .i64 (j:Nat)),(19,.bool true)]) (H':=E)
  ·simp only [dM]
   (refine ⟨0,?_⟩;simp [-getElem?_pos,go_sem,eqV,ah,hp,hb0,w1,hI,h])
  refine Run.cond (d:=true) (by simp [dM,aJ,ay]) ?_
  apply Run.seq (fr':=[(2,.int .i64 (s:Nat)),(3,.int .i64 (base:Nat)),(4,.int .i64 (bits:Nat))]) (H':=E)
  ·simp only [dM]
   (refine ⟨0,?_⟩;simp [-getElem?_pos,go_sem,eqV,ah,ak])
  ·exact ⟨0,rfl⟩
 ·rw [if_neg h]
  have hI:¬ (n:Int) < ((base + pw:Nat):Int):=by omega
  generalize base + pw = nb at *
  generalize s + 1 = s1 at *
  generalize j + 1 = j1 at *
  apply Run.seq (fr':=dM n s1 nb bits ++ [(12,.int .i64 (j:Nat))]) (H':=E)
  ·refine Run.block ?_ (by simp)
   apply Run.seq (fr':=dM n s base bits ++ [(12,.int .i64 (j:Nat)),(19,.bool false)]) (H':=E)
   ·apply Run.seq (fr':=dM n s base bits ++ [(12,.int .i64 (j:Nat)),(19,.bool false)]) (H':=E)
    ·simp only [dM]
     (refine ⟨0,?_⟩;simp [-getElem?_pos,go_sem,eqV,ah,hp,hb0,w1,hI,h])
    ·exact Run.cond (d:=false) (by simp [dM,aJ,ay]) ⟨0,rfl⟩
   ·simp only [dM]
    (refine ⟨0,?_⟩;simp [-getElem?_pos,go_sem,eqV,ah,hp,hb0,w1,w2,ak])
  ·simp only [dM]
   (refine ⟨0,?_⟩;simp [-getElem?_pos,go_sem,eqV,ah,w3])
theorem agp {m n s base bits f:Nat} {R:Nat × Nat × Nat} {E:AM.Heap} (hn:n≤100000) (hs:s + f≤900) (xq:bits + f≤41) (hb:base≤n + 100000) (hok:gOk 2 n f s base bits 0 = true) (hR:gF 2 n f s base bits 0 = R) :
  ∃ code,((Try.f58.body).bind (aB [1,1,1,1,0,0,0,0,1])) = some code∧aj (fun o=>(o.ex = .normal∧o.H = E∧∃ s' base' f',f' < f∧s' + f'≤900∧bits + 1 + f'≤41∧base'≤n + 100000∧cO [0,2,3,4] o.fr = dM n s' base' bits∧gOk 2 n f' s' base' (bits + 1) 0 = true∧gF 2 n f' s' base' (bits + 1) 0 = R)∨(o.ex = .ret∧o.fr = lnR R∧o.H = E)) X (evT X) 58 m code (dM n s base bits ++ [(12,.int .i64 (0:Nat))]) E:=by
 refine ⟨_,rfl,?_⟩
 refine aj.mono (aj.JG (P:=fun fr H=>H = E∧∃ s' base' f',f' < f∧s' + f'≤900∧bits + 1 + f'≤41∧base'≤n + 100000∧cO [0,2,3,4] fr = dM n s' base' bits∧gOk 2 n f' s' base' (bits + 1) 0 = true∧gF 2 n f' s' base' (bits + 1) 0 = R) (Q:=fun o=>o.ex = .ret∧o.fr = lnR R∧o.H = E) ?_) ?_
 ·refine aj.kQ (I:=fun k fr H=>∃ s' base' j,k≤f∧s' + k≤900∧base'≤n + 100000∧j≤2∧fr = dM n s' base' bits ++ [(12,.int .i64 (j:Nat))]∧H = E∧gOk 2 n k s' base' bits j = true∧gF 2 n k s' base' bits j = R) ?_ (k:=f) ⟨s,base,0,by omega,hs,hb,by omega,rfl,rfl,hok,hR⟩
  rintro k fr H ⟨s',base',j,hk,hsk,hb',hj,rfl,rfl,hok',hR'⟩
  cases k with
  | zero=>simp [gOk] at hok'
  | succ k =>
   rw [gOk] at hok'
   rw [gF] at hR'
   by_cases hj2:j = 2
   ·subst hj2
    rw [if_pos rfl] at hok' hR'
    refine aj.of (o:=⟨.exit 2,dM n s' base' bits ++ [(12,.int .i64 (2:Nat)),(13,.bool false)],H⟩) ?_ (.inr ⟨by simp,.inl ⟨rfl,rfl,s',base',k,by omega,by omega,by omega,hb',by simp [dM,cO,ay],hok',hR'⟩⟩)
    refine ⟨0,?_⟩
    simp only [dM]
    simp [-getElem?_pos,go_sem,eqV,ah]
   ·rw [if_neg hj2] at hok' hR'
    have hjl:j < 2:=by omega
    have hjI:(j:Int) < 2:=by omega
    have hst:=aap (m:=m) (E:=H) (s:=s') (base:=base') (bits:=bits) (j:=j) hn (by omega) (by omega) hb' hjl
    by_cases hlt:n < base' + 2 ^ bits
    ·rw [if_pos hlt] at hok' hR' hst
     subst hR'
     refine aj.of (o:=⟨.ret,lnR (s',base',bits),H⟩) ?_ (.inr ⟨by simp,.inr ⟨rfl,rfl,rfl,rfl⟩⟩)
     apply Run.seq (fr':=dM n s' base' bits ++ [(12,.int .i64 (j:Nat)),(13,.bool true)]) (H':=H)
     ·simp only [dM]
      (refine ⟨0,?_⟩;simp [-getElem?_pos,go_sem,eqV,ah,hjI,hjl])
     apply Run.seq (fr':=dM n s' base' bits ++ [(12,.int .i64 (j:Nat)),(13,.bool true)]) (H':=H)
     ·exact Run.cond (d:=true) (by simp [dM,aJ,ay]) ⟨0,rfl⟩
     exact piece hst _ rfl
    ·rw [if_neg hlt] at hok' hR' hst
     refine aj.of (o:=⟨.normal,dM n (s' + 1) (base' + 2 ^ bits) bits ++ [(12,.int .i64 (j + 1:Nat))],H⟩) ?_ (.inl ⟨rfl,k,by omega,s' + 1,base' + 2 ^ bits,j + 1,by omega,by omega,by omega,by omega,rfl,rfl,hok',hR'⟩)
     apply Run.seq (fr':=dM n s' base' bits ++ [(12,.int .i64 (j:Nat)),(13,.bool true)]) (H':=H)
     ·simp only [dM]
      (refine ⟨0,?_⟩;simp [-getElem?_pos,go_sem,eqV,ah,hjI,hjl])
     apply Run.seq (fr':=dM n s' base' bits ++ [(12,.int .i64 (j:Nat)),(13,.bool true)]) (H':=H)
     ·exact Run.cond (d:=true) (by simp [dM,aJ,ay]) ⟨0,rfl⟩
     exact piece hst _ rfl
 ·rintro o (⟨h1,h2⟩ | ⟨h1,h2⟩)
  ·exact .inl ⟨h1,h2⟩
  ·exact .inr h2
def eY (n:Nat):Nat × Nat × Nat:=if n≤4 then (n - 1,n,0) else gF 2 n 40 4 5 1 0
theorem Js {n:Nat} (h:n≤32768):gOk 2 n 40 4 5 1 0 = true:=Bc h _ _ _ _ _ (by decide +kernel)
theorem G7 {m n:Nat} {E:AM.Heap} (h0:1≤n) (h:n≤32768):∃ code,Try.f58.body = some code∧aj (fun o=>o.ex = .ret∧o.fr = lnR (eY n)∧o.H = E) X (evT X) 58 m code [(0,.int .i64 (n:Nat))] E:=by
 refine ⟨_,rfl,?_⟩
 unfold eY
 apply aj.seq (fr':=[(0,.int .i64 (n:Nat))]) (H':=E)
 ·(refine ⟨0,?_⟩;simp [-getElem?_pos,go_sem,eqV,ah,ak])
 by_cases h2:n≤4
 ·rw [if_pos h2]
  have h2I:(n:Int)≤4:=by omega
  have w1:IntKind.i64.wrap ((n:Int) - 1) = ((n - 1:Nat):Int):=by rw [wrap_i64 (by omega) (by omega)];omega
  refine aj.of (o:=⟨.ret,lnR (n - 1,n,0),E⟩) ?_ ⟨rfl,rfl,rfl⟩
  refine ⟨0,?_⟩
  simp only [lnR]
  generalize n - 1 = s at *
  simp [-getElem?_pos,go_sem,eqV,ah,h2,h2I,w1,ak]
 rw [if_neg h2]
 have h2I:¬ (n:Int)≤4:=by omega
 apply aj.assoc
 apply aj.seq (fr':=[(0,.int .i64 (n:Nat)),(6,.bool false)]) (H':=E)
 ·(refine ⟨0,?_⟩;simp [-getElem?_pos,go_sem,eqV,ah,h2,h2I])
 apply aj.seq (fr':=[(0,.int .i64 (n:Nat)),(6,.bool false)]) (H':=E)
 ·exact Run.cond (d:=false) (by simp [aJ,ay]) ⟨0,rfl⟩
 apply aj.seq (fr':=[(0,.int .i64 (n:Nat)),(2,.int .i64 4),(3,.int .i64 5)]) (H':=E)
 ·(refine ⟨0,?_⟩;simp [-getElem?_pos,go_sem,eqV,ah,ak])
 apply aj.seq (fr':=dM n 4 5 1) (H':=E)
 ·simp only [dM]
  (refine ⟨0,?_⟩;simp [-getElem?_pos,go_sem,eqV,ah,ak])
 refine aj.blk ?_ (fun o ho=>by rw [ho.1];simp)
 refine aj.kQ (I:=fun k fr H=>∃ s base bits,s + k≤900∧bits + k≤41∧base≤n + 100000∧fr = dM n s base bits∧H = E∧gOk 2 n k s base bits 0 = true∧gF 2 n k s base bits 0 = gF 2 n 40 4 5 1 0) ?_ (k:=40) ⟨4,5,1,by omega,by omega,by omega,rfl,rfl,Js h,rfl⟩
 rintro k fr H ⟨s,base,bits,hs,xq,hb,rfl,rfl,hok,hR⟩
 generalize gF 2 n 40 4 5 1 0 = R at *
 have h8:∃ code,((Try.f58.body).bind (aB [1,1,1,1,0,0,0,0,0])) = some code∧Run X (evT X) 58 m code (dM n s base bits) H ⟨.normal,dM n s base bits ++ [(12,.int .i64 (0:Nat))],H⟩:=by
  refine ⟨_,rfl,?_⟩
  simp only [dM]
  (refine ⟨0,?_⟩;simp [-getElem?_pos,go_sem,eqV,ah])
 obtain ⟨aaP,hcB,⟨ex,fr,H2⟩,hq,hrB⟩:=agp (m:=m) (E:=H) (by omega) hs xq hb hok hR
 rcases hq with ⟨h3,h4,s',base',f',k1,k2,k3,k4,k5,k6,k7⟩ | ⟨h3,h4,h5⟩
 ·simp only at h3 h4 k5
  subst h3 h4
  have g0:ay fr 0 = .int .i64 (n:Nat):=by simpa [cO,dM,ay] using congrArg (fun f=>ay f 0) k5
  have g2:ay fr 2 = .int .i64 (s':Nat):=by simpa [cO,dM,ay] using congrArg (fun f=>ay f 2) k5
  have g3:ay fr 3 = .int .i64 (base':Nat):=by simpa [cO,dM,ay] using congrArg (fun f=>ay f 3) k5
  have g4:ay fr 4 = .int .i64 (bits:Nat):=by simpa [cO,dM,ay] using congrArg (fun f=>ay f 4) k5
  refine aj.of (o:=⟨.normal,dM n s' base' (bits + 1),H2⟩) ?_ (.inl ⟨rfl,f',k1,s',base',bits + 1,k2,k3,k4,rfl,rfl,k6,k7⟩)
  apply Run.seq (fr':=fr) (H':=H2)
  ·refine Run.block ?_ (by simp)
   exact Run.seq (piece h8 _ rfl) ((atK hcB) ▸ hrB)
  ·have w1:IntKind.i64.wrap ((bits:Int) + 1) = ((bits + 1:Nat):Int):=by rw [wrap_i64 (by omega) (by omega)];omega
   generalize bits + 1 = b1 at *
   simp only [dM]
   (refine ⟨0,?_⟩;simp [-getElem?_pos,go_sem,eqV,ah,g0,g2,g3,g4,w1,ak])
 ·simp only at h3 h4 h5
  subst h3 h4 h5
  refine aj.of (o:=⟨.ret,lnR R,H2⟩) ?_ (.inr ⟨by simp,rfl,rfl,rfl⟩)
  refine Run.bI ?_ (by simp)
  refine Run.block ?_ (by simp)
  exact Run.seq (piece h8 _ rfl) ((atK hcB) ▸ hrB)
theorem Oa {n:Nat} {H:AM.Heap} (h0:1≤n) (h:n≤32768):evT X 58 [.int .i64 (n:Nat)] H = some (.tup [.int .i64 ((eY n).1:Nat),.int .i64 ((eY n).2.1:Nat),.int .i64 ((eY n).2.2:Nat)],H):=by
 obtain ⟨code,hc,⟨out,⟨h1,h2,h3⟩,hr⟩⟩:=G7 (m:=0) (E:=[]) h0 h
 have hx:=fV (C:=X) (f:=58) (i:=0) (a:=.int .i64 (n:Nat)) (H:=H) rfl rfl (dW 1)
 refine dQ (Ev1.tY (l:=[.int .i64 ((eY n).1:Nat),.int .i64 ((eY n).2.1:Nat),.int .i64 ((eY n).2.2:Nat)]) (bJ X) Try.func58 hc hx rfl (by simp [dn]) rfl rfl rfl ?_)
 rw [adL]
 refine ⟨out,⟨h1,?_⟩,hr⟩
 show aP X out.fr out.H [.tmp 2,.tmp 3,.tmp 4] = _
 rw [h2]
 rfl
def flL:List Int:=List.replicate 144 8 ++ List.replicate 112 9 ++ List.replicate 24 7 ++ List.replicate 8 8
def flD:List Int:=List.replicate 32 5
def flO (l:List Int):AM.Obj:=⟨.pi .i64 l,0,.none,1,true,false,0⟩
def Ym:Row1:=⟨53,[],.tup [.sl 0 0 288 0,.sl 1 0 32 0],[some (flO flL),some (flO flD)]⟩
theorem Yn:kU X (Ym :: []):=kU.cons (Fa kU.nil) kU.nil (n:=400) (by kernel_rfl)
theorem an9 (H:AM.Heap):evT X 53 [] H = some (.tup [.sl H.length 0 288 0,.sl (H.length + 1) 0 32 0],H ++ [some (flO flL),some (flO flD)]):=by
 have:=dQ (Ev1.frame (Yn Ym (at7.2 rfl)).1 rfl H)
 simpa [Ym,dw,kT,ren,aT,wz,flO,bU,avD] using this
theorem QC {H:AM.Heap} {a:AV} {l:List Int} (h:fC H a = some (.pi .i64 l)) (he:(jR l).2 = 0):evT X 54 [a] H = some (.tup [.sl H.length 0 l.length 0,.int .i64 0],H ++ [lI l.length (oM l)]):=by
 obtain ⟨c,x,hx⟩:=gV (C:=X) (f:=54) (i:=0) rfl h (dW 1)
 obtain ⟨code,hb,hr⟩:=Qa c l he
 have:=Ev1.fresh (H:=H) (args:=[a]) (l:=[.sl 3 0 l.length 0,.int .i64 0]) (o:=3) (g:=0) F6 Try.func54 hb hx rfl (by simp [dn]) hr (.inr rfl) rfl rfl rfl rfl rfl rfl rfl
 have:=dQ this
 simpa [aN,dP,ren,bU,lI,AM.fresh] using this
def lcL:List Int:=oM flL
def dcL:List Int:=oM flD
theorem aa6:(jR flL).2 = 0:=by kernel_rfl
theorem aa7:(jR flD).2 = 0:=by kernel_rfl
theorem rZ:flL.length = 288:=by decide +kernel
theorem Ef:flD.length = 32:=by decide +kernel
theorem vC (l:List Int):(oM l).length = l.length:=zC _ l
theorem vX:∀ n,n < 259→3≤n→(lenOf n).1≤285∧257≤(lenOf n).1∧(lenOf n).2.1≤n∧n < (lenOf n).2.1 + 2 ^ (lenOf n).2.2∧(lenOf n).2.2≤5:=by decide +kernel
theorem Gz {per n:Nat}:∀ {f s base bits j:Nat},gOk per n f s base bits j = true→base≤n→base≤(gF per n f s base bits j).2.1∧(gF per n f s base bits j).2.1≤n∧n < (gF per n f s base bits j).2.1 + 2 ^ (gF per n f s base bits j).2.2
 | 0,_,_,_,_,h,_=>by cases h
 | f + 1,s,base,bits,j,h,hb=>by
  unfold gOk at h
  unfold gF
  split
  ·rename_i hj
   rw [if_pos hj] at h
   exact Gz h hb
  ·rename_i hj
   rw [if_neg hj] at h
   split
   ·rename_i hn
    exact ⟨atG _,hb,hn⟩
   ·rename_i hn
    rw [if_neg hn] at h
    have:=Gz h (by omega)
    exact ⟨auN (Nat.le_add_right _ _) this.1,this.2⟩
theorem zO {n:Nat}:∀ {f bits j:Nat},j≤2→gOk 2 n f (2 * bits + 2 + j) ((2 + j) * 2 ^ bits + 1) bits j = true→∃ b j',j' < 2∧gF 2 n f (2 * bits + 2 + j) ((2 + j) * 2 ^ bits + 1) bits j = (2 * b + 2 + j',(2 + j') * 2 ^ b + 1,b)
 | 0,_,_,_,h=>by cases h
 | f + 1,bits,j,hj,h=>by
  unfold gOk at h
  unfold gF
  by_cases h2:j = 2
  ·subst h2
   rw [if_pos rfl] at h ⊢
   have e1:2 * bits + 2 + 2 = 2 * (bits + 1) + 2 + 0:=by omega
   have e2:(2 + 2) * 2 ^ bits + 1 = (2 + 0) * 2 ^ (bits + 1) + 1:=by rw [av6];omega
   rw [e1,e2] at h ⊢
   exact zO (by omega) h
  ·rw [if_neg h2] at h ⊢
   split
   ·exact ⟨bits,j,by omega,rfl⟩
   ·rename_i hn
    rw [if_neg hn] at h
    have e1:2 * bits + 2 + j + 1 = 2 * bits + 2 + (j + 1):=by omega
    have e2:(2 + j) * 2 ^ bits + 1 + 2 ^ bits = (2 + (j + 1)) * 2 ^ bits + 1:=by
     rw [show 2 + (j + 1) = (2 + j) + 1 by omega,avs]
     omega
    rw [e1,e2] at h ⊢
    exact zO (by omega) h
theorem vY {n:Nat} (h1:1≤n) (h:n≤32768):(eY n).1≤29∧(eY n).2.1≤n∧n < (eY n).2.1 + 2 ^ (eY n).2.2∧(eY n).2.2≤13:=by
 unfold eY
 by_cases h4:n≤4
 ·rw [if_pos h4]
  simp
  omega
 ·rw [if_neg h4]
  obtain ⟨_,a2,a3⟩:=Gz (Js h) (by omega)
  obtain ⟨b,j,hj,he⟩:=zO (n:=n) (f:=40) (bits:=1) (j:=0) (by omega) (Js h)
  have he':gF 2 n 40 4 5 1 0 = (2 * b + 2 + j,(2 + j) * 2 ^ b + 1,b):=he
  rw [he'] at a2 a3 ⊢
  simp only at a2 a3 ⊢
  have hb:b≤13:=by
   refine Classical.byContradiction fun hc=>?_
   have hp:2 ^ 14≤2 ^ b:=auk (by omega) (by omega)
   have:2 * 2 ^ b≤(2 + j) * 2 ^ b:=aue _ (by omega)
   omega
  exact ⟨by omega,a2,a3,hb⟩
theorem CZ:∀ y,y < 288→0≤flL.getD y 0∧flL.getD y 0≤9:=by decide +kernel
theorem Qg:∀ y,y < 32→0≤flD.getD y 0∧flD.getD y 0≤9:=by decide +kernel
theorem sQ {l:List Int} {y:Nat} (h:y < l.length):l[y]? = some (l.getD y 0):=by
 rw [atH,atB h];rfl
def jO (s:Ws) (cs ls:List Int) (y:Nat):Ws:=rX s (cs.getD y 0) (ls.getD y 0).toNat
def pxW (s:Ws) (x:Px):Ws :=
 if x.len = 0 then jO s lcL flL x.byte.toNat else
  cZ (jO (cZ (jO s lcL flL (lenOf x.len.toNat).1) (x.len - ((lenOf x.len.toNat).2.1:Nat)) (lenOf x.len.toNat).2.2) dcL flD (eY x.dist.toNat).1) (x.dist - ((eY x.dist.toNat).2.1:Nat)) (eY x.dist.toNat).2.2
def Bd (l:List Px):Ws:=jO (l.foldl pxW (cZ (cZ ⟨0,[]⟩ 1 1) 1 2)) lcL flL 256
def mM (l:List Px):List UInt8 × Int:=if (kF l []).2 ≠ 0 then ([],(kF l []).2) else ((Bd l).o,0)
structure FxV (E:AM.Heap) (o6 o7 o8 o10 o12:Nat) (oa:Option Nat) (s:Ws):Prop where
 r6:E[o6]? = some (some (flO flL))
 r7:E[o7]? = some (some (flO flD))
 r8:E[o8]? = some (lI 288 lcL)
 r10:E[o10]? = some (lI 32 dcL)
 wr:WrV 0 E o12 oa s
 lt:o6 < o12∧o7 < o12∧o8 < o12∧o10 < o12
 oa:∀ a,oa = some a→o12 < a
 ok:jD s
section
variable {E:AM.Heap} {o6 o7 o8 o10 o12:Nat} {oa:Option Nat} {s:Ws}
theorem WrV.lt' (h:WrV 0 E o12 oa s):o12 < E.length:=h.lt.1
theorem FxV.step {E':AM.Heap} {oa':Option Nat} {s':Ws} (h:FxV E o6 o7 o8 o10 o12 oa s) (hw:WrV 0 E' o12 oa' s') (hk:Kpw E E' o12 oa oa') (hok:jD s'):FxV E' o6 o7 o8 o10 o12 oa' s':=by
 obtain ⟨l6,l7,l8,l10⟩:=h.lt
 have hl:=h.wr.lt'
 have keep:∀ j,j < o12→E'[j]? = E[j]?:=fun j hj=>hk.rest j (by omega) (by omega) fun a ha=>by have:=h.oa a ha;omega
 refine ⟨by rw [keep _ l6];exact h.r6,by rw [keep _ l7];exact h.r7,by rw [keep _ l8];exact h.r8,by rw [keep _ l10];exact h.r10,hw,h.lt,?_,hok⟩
 intro a ha
 cases hq:oa with
 | none=>have:=hk.new a hq ha;omega
 | some z =>
  have:=hk.same z hq
  rw [ha] at this
  cases this
  exact h.oa _ hq
theorem FxV.cat (r:AM.Heap) (h:FxV E o6 o7 o8 o10 o12 oa s):FxV (E ++ r) o6 o7 o8 o10 o12 oa s:=by
 obtain ⟨l6,l7,l8,l10⟩:=h.lt
 have hl:=h.wr.lt'
 have keep:∀ j,j < o12→(E ++ r)[j]? = E[j]?:=fun j hj=>atE (by omega)
 exact ⟨by rw [keep _ l6];exact h.r6,by rw [keep _ l7];exact h.r7,by rw [keep _ l8];exact h.r8,by rw [keep _ l10];exact h.r10,h.wr.cat,h.lt,h.oa,h.ok⟩
def oz (o6 o7 o8 o10 o12 c:Nat) (l:List Px) (i:Nat):AM.Frame:=[(6,.sl o6 0 288 0),(7,.sl o7 0 32 0),(8,.sl o8 0 288 0),(10,.sl o10 0 32 0),(12,.ptr o12 0 0 0),(46,.ro c (.pr 3 (l.map pxR)) 1),(47,.int .i64 (l.length:Nat)),(48,.int .i64 (i:Nat))]
def yt (o6 o7 o8 o10 o12 q c:Nat) (l:List Px) (i:Nat):AM.Frame:=[(6,.sl o6 0 288 0),(7,.sl o7 0 32 0),(8,.sl o8 0 288 0),(10,.sl o10 0 32 0),(12,.ptr o12 0 0 0),(14,.ptr q 0 0 0),(46,.ro c (.pr 3 (l.map pxR)) 1),(47,.int .i64 (l.length:Nat)),(48,.int .i64 (i:Nat))]
theorem kL {cs ls:List Int} {y:Nat} (h:jD s):jD (jO s cs ls y)∧(jO s cs ls y).k = s.k + (ls.getD y 0).toNat:=EC _ h
theorem acF {m i q c:Nat} {x:Px} {l:List Px} {tl:AM.Frame} (h:FxV E o6 o7 o8 o10 o12 oa s) (hl:s.k≤7000000) (hq:E[q]? = some (some (pxO x))):∃ E' oa',FxV E' o6 o7 o8 o10 o12 oa' (jO s lcL flL x.byte.toNat)∧Kpw E E' o12 oa oa'∧∃ code,((Try.f42.body).bind (aB [1,1,1,1,1,1,1,1,0,1,0,0,1,1,0,0,1,0,1,0,0])) = some code∧Run X (evT X) 42 m code (yt o6 o7 o8 o10 o12 q c l i ++ tl) E ⟨.normal,oz o6 o7 o8 o10 o12 c l i,E'⟩:=by
 have hy:=x.byte.toNat_lt
 have hy2:x.byte.toNat < 288:=by omega
 obtain ⟨n0,n9⟩:=CZ _ hy2
 have hc:=sQ (l:=lcL) (y:=x.byte.toNat) (by unfold lcL;rw [vC,rZ];exact hy2)
 have hf:=sQ (l:=flL) (y:=x.byte.toNat) (by rw [rZ];exact hy2)
 obtain ⟨E',oa',g1,g2,g3⟩:=zI (x:=lcL.getD x.byte.toNat 0) (I:=flL.getD x.byte.toNat 0) (n:=(flL.getD x.byte.toNat 0).toNat) (by omega) h.wr h.ok (by omega) (by omega)
 have hs:=kL (cs:=lcL) (ls:=flL) (y:=x.byte.toNat) h.ok
 refine ⟨E',oa',h.step g2 g3 hs.1,g3,_,rfl,?_⟩
 have q6:=h.r6;have q8:=h.r8
 have hyI:(x.byte.toNat:Int) < 288:=by omega
 simp only [flO,lI,pxO,pxR] at q6 q8 hq
 simp only [yt,oz]
 generalize lcL.getD x.byte.toNat 0 = v1 at *
 generalize flL.getD x.byte.toNat 0 = v2 at *
 generalize l.map pxR = R at *
 generalize l.length = N at *
 generalize lcL = LC at *
 generalize flL = LL at *
 (refine ⟨0,?_⟩;simp [-getElem?_pos,go_sem,eqV,ah,retag,q6,q8,hq,hyI,hy2,hc,hf,g1])
end
def Ob (o6 o7 o8 o10 o12 q u v w c:Nat) (l:List Px) (i:Nat):AM.Frame:=[(6,.sl o6 0 288 0),(7,.sl o7 0 32 0),(8,.sl o8 0 288 0),(10,.sl o10 0 32 0),(12,.ptr o12 0 0 0),(14,.ptr q 0 0 0),(15,.int .i64 (u:Nat)),(16,.int .i64 (v:Nat)),(17,.int .i64 (w:Nat)),(46,.ro c (.pr 3 (l.map pxR)) 1),(47,.int .i64 (l.length:Nat)),(48,.int .i64 (i:Nat))]
def Oc (o6 o7 o8 o10 o12 q v w c:Nat) (l:List Px) (i:Nat):AM.Frame:=[(6,.sl o6 0 288 0),(7,.sl o7 0 32 0),(8,.sl o8 0 288 0),(10,.sl o10 0 32 0),(12,.ptr o12 0 0 0),(14,.ptr q 0 0 0),(16,.int .i64 (v:Nat)),(17,.int .i64 (w:Nat)),(46,.ro c (.pr 3 (l.map pxR)) 1),(47,.int .i64 (l.length:Nat)),(48,.int .i64 (i:Nat))]
section
variable {E:AM.Heap} {o6 o7 o8 o10 o12:Nat} {oa:Option Nat} {s:Ws}
theorem acG {m i q c n:Nat} {x:Px} {l:List Px} {tl:AM.Frame} (hn:x.len = (n:Nat)) (OB:n≤258) (hq:E[q]? = some (some (pxO x))):∃ code,((Try.f42.body).bind (aB [1,1,1,1,1,1,1,1,0,1,0,0,1,1,0,0,1,1,0])) = some code∧Run X (evT X) 42 m code (yt o6 o7 o8 o10 o12 q c l i ++ tl) E ⟨.normal,Ob o6 o7 o8 o10 o12 q (lenOf n).1 (lenOf n).2.1 (lenOf n).2.2 c l i,E⟩:=by
 refine ⟨_,rfl,?_⟩
 have hL:=Us (H:=E) OB
 simp only [pxO,pxR,hn] at hq
 simp only [yt,Ob]
 generalize lenOf n = R3 at *
 generalize l.map pxR = R at *
 generalize l.length = N at *
 (refine ⟨0,?_⟩;simp [-getElem?_pos,go_sem,eqV,ah,hq,hL,ak])
theorem acH {m i q c n:Nat} {x:Px} {l:List Px} (hn:x.dist = (n:Nat)) (h1:1≤n) (h2:n≤32768) (hq:E[q]? = some (some (pxO x))):∃ code,((Try.f42.body).bind (aB [1,1,1,1,1,1,1,1,0,1,0,0,1,1,0,0,1,1,1,1,1,0])) = some code∧Run X (evT X) 42 m code (yt o6 o7 o8 o10 o12 q c l i) E ⟨.normal,Ob o6 o7 o8 o10 o12 q (eY n).1 (eY n).2.1 (eY n).2.2 c l i,E⟩:=by
 refine ⟨_,rfl,?_⟩
 have hL:=Oa (H:=E) h1 h2
 simp only [pxO,pxR,hn] at hq
 simp only [yt,Ob]
 generalize eY n = R3 at *
 generalize l.map pxR = R at *
 generalize l.length = N at *
 (refine ⟨0,?_⟩;simp [-getElem?_pos,go_sem,eqV,ah,hq,hL,ak])
theorem acI {m i q u v w c:Nat} {l:List Px} (h:FxV E o6 o7 o8 o10 o12 oa s) (hl:s.k≤7000000) (hu:u < 288):∃ E' oa',FxV E' o6 o7 o8 o10 o12 oa' (jO s lcL flL u)∧Kpw E E' o12 oa oa'∧∃ code,((Try.f42.body).bind (aB [1,1,1,1,1,1,1,1,0,1,0,0,1,1,0,0,1,1,1,0])) = some code∧Run X (evT X) 42 m code (Ob o6 o7 o8 o10 o12 q u v w c l i) E ⟨.normal,Oc o6 o7 o8 o10 o12 q v w c l i,E'⟩:=by
 obtain ⟨n0,n9⟩:=CZ _ hu
 have hc:=sQ (l:=lcL) (y:=u) (by unfold lcL;rw [vC,rZ];exact hu)
 have hf:=sQ (l:=flL) (y:=u) (by rw [rZ];exact hu)
 obtain ⟨E',oa',g1,g2,g3⟩:=zI (x:=lcL.getD u 0) (I:=flL.getD u 0) (n:=(flL.getD u 0).toNat) (by omega) h.wr h.ok (by omega) (by omega)
 have hs:=kL (cs:=lcL) (ls:=flL) (y:=u) h.ok
 refine ⟨E',oa',h.step g2 g3 hs.1,g3,_,rfl,?_⟩
 have q6:=h.r6;have q8:=h.r8
 have huI:(u:Int) < 288:=by omega
 simp only [flO,lI] at q6 q8
 simp only [Ob,Oc]
 generalize lcL.getD u 0 = v1 at *
 generalize flL.getD u 0 = v2 at *
 generalize l.map pxR = R at *
 generalize l.length = N at *
 generalize lcL = LC at *
 generalize flL = LL at *
 (refine ⟨0,?_⟩;simp [-getElem?_pos,go_sem,eqV,ah,retag,q6,q8,huI,hu,hc,hf,g1])
theorem acJ {m i q u v w c:Nat} {l:List Px} (h:FxV E o6 o7 o8 o10 o12 oa s) (hl:s.k≤7000000) (hu:u < 32):∃ E' oa',FxV E' o6 o7 o8 o10 o12 oa' (jO s dcL flD u)∧Kpw E E' o12 oa oa'∧∃ code,((Try.f42.body).bind (aB [1,1,1,1,1,1,1,1,0,1,0,0,1,1,0,0,1,1,1,1,1,1,0])) = some code∧Run X (evT X) 42 m code (Ob o6 o7 o8 o10 o12 q u v w c l i) E ⟨.normal,Oc o6 o7 o8 o10 o12 q v w c l i,E'⟩:=by
 obtain ⟨n0,n9⟩:=Qg _ hu
 have hc:=sQ (l:=dcL) (y:=u) (by unfold dcL;rw [vC,Ef];exact hu)
 have hf:=sQ (l:=flD) (y:=u) (by rw [Ef];exact hu)
 obtain ⟨E',oa',g1,g2,g3⟩:=zI (x:=dcL.getD u 0) (I:=flD.getD u 0) (n:=(flD.getD u 0).toNat) (by omega) h.wr h.ok (by omega) (by omega)
 have hs:=kL (cs:=dcL) (ls:=flD) (y:=u) h.ok
 refine ⟨E',oa',h.step g2 g3 hs.1,g3,_,rfl,?_⟩
 have q6:=h.r7;have q8:=h.r10
 have huI:(u:Int) < 32:=by omega
 simp only [flO,lI] at q6 q8
 simp only [Ob,Oc]
 generalize dcL.getD u 0 = v1 at *
 generalize flD.getD u 0 = v2 at *
 generalize l.map pxR = R at *
 generalize l.length = N at *
 generalize dcL = LC at *
 generalize flD = LL at *
 (refine ⟨0,?_⟩;simp [-getElem?_pos,go_sem,eqV,ah,retag,q6,q8,huI,hu,hc,hf,g1])
theorem acK {m i q v w c n:Nat} {x:Px} {l:List Px} (h:FxV E o6 o7 o8 o10 o12 oa s) (hl:s.k≤7000000) (hn:x.len = (n:Nat)) (hn2:n≤100000) (hv:v≤n) (hw:w≤60) (hq:E[q]? = some (some (pxO x))):∃ E' oa',FxV E' o6 o7 o8 o10 o12 oa' (cZ s (x.len - (v:Nat)) w)∧Kpw E E' o12 oa oa'∧∃ code,((Try.f42.body).bind (aB [1,1,1,1,1,1,1,1,0,1,0,0,1,1,0,0,1,1,1,1,0])) = some code∧Run X (evT X) 42 m code (Oc o6 o7 o8 o10 o12 q v w c l i) E ⟨.normal,yt o6 o7 o8 o10 o12 q c l i,E'⟩:=by
 obtain ⟨E',oa',g1,g2,g3⟩:=oh (x:=x.len - (v:Nat)) (I:=(w:Nat)) (n:=w) rfl h.wr h.ok (by omega) hw
 refine ⟨E',oa',h.step g2 g3 (eu h.ok w).1,g3,_,rfl,?_⟩
 rw [hn] at g1
 have w1:IntKind.i64.wrap ((n:Int) - (v:Int)) = (n:Int) - (v:Int):=by rw [wrap_i64 (by omega) (by omega)]
 simp only [pxO,pxR,hn] at hq
 simp only [Oc,yt]
 generalize l.map pxR = R at *
 generalize l.length = N at *
 (refine ⟨0,?_⟩;simp [-getElem?_pos,go_sem,eqV,ah,hq,w1,g1])
theorem acL {m i q v w c n:Nat} {x:Px} {l:List Px} (h:FxV E o6 o7 o8 o10 o12 oa s) (hl:s.k≤7000000) (hn:x.dist = (n:Nat)) (hn2:n≤100000) (hv:v≤n) (hw:w≤60) (hq:E[q]? = some (some (pxO x))):∃ E' oa',FxV E' o6 o7 o8 o10 o12 oa' (cZ s (x.dist - (v:Nat)) w)∧Kpw E E' o12 oa oa'∧∃ code,((Try.f42.body).bind (aB [1,1,1,1,1,1,1,1,0,1,0,0,1,1,0,0,1,1,1,1,1,1,1])) = some code∧Run X (evT X) 42 m code (Oc o6 o7 o8 o10 o12 q v w c l i) E ⟨.normal,oz o6 o7 o8 o10 o12 c l i,E'⟩:=by
 obtain ⟨E',oa',g1,g2,g3⟩:=oh (x:=x.dist - (v:Nat)) (I:=(w:Nat)) (n:=w) rfl h.wr h.ok (by omega) hw
 refine ⟨E',oa',h.step g2 g3 (eu h.ok w).1,g3,_,rfl,?_⟩
 rw [hn] at g1
 have w1:IntKind.i64.wrap ((n:Int) - (v:Int)) = (n:Int) - (v:Int):=by rw [wrap_i64 (by omega) (by omega)]
 simp only [pxO,pxR,hn] at hq
 simp only [Oc,oz]
 generalize l.map pxR = R at *
 generalize l.length = N at *
 (refine ⟨0,?_⟩;simp [-getElem?_pos,go_sem,eqV,ah,hq,w1,g1])
end
theorem Oe {x:Px} (h:nN x = true) (h0:¬ x.len = 0):x.dist≤32768:=by
 unfold nN at h
 rw [if_neg h0] at h
 simp at h
 omega
theorem Ov {s:Ws} {x:Px} (h:jD s) (hm:nN x = true):jD (pxW s x)∧(pxW s x).k≤s.k + 40:=by
 unfold pxW
 by_cases h0:x.len = 0
 ·rw [if_pos h0]
  obtain ⟨h1,h2⟩:=kL (cs:=lcL) (ls:=flL) (y:=x.byte.toNat) h
  have:=CZ x.byte.toNat (by have:=x.byte.toNat_lt;omega)
  exact ⟨h1,by omega⟩
 ·rw [if_neg h0]
  obtain ⟨n,d,hn,hd,n3,n258,d1⟩:=KD hm h0
  have hd2:=Oe hm h0
  rw [hn,hd] at *
  simp only [auy] at *
  obtain ⟨a1,a2,a3,a4,a5⟩:=vX n (by omega) n3
  obtain ⟨b1,b2,b3,b4⟩:=vY d1 (by omega)
  obtain ⟨h1,h2⟩:=kL (cs:=lcL) (ls:=flL) (y:=(lenOf n).1) h
  obtain ⟨h3,h4⟩:=eu (x:=(n:Int) - ((lenOf n).2.1:Nat)) h1 (lenOf n).2.2
  obtain ⟨h5,h6⟩:=kL (cs:=dcL) (ls:=flD) (y:=(eY d).1) h3
  obtain ⟨h7,h8⟩:=eu (x:=(d:Int) - ((eY d).2.1:Nat)) h5 (eY d).2.2
  have:=CZ (lenOf n).1 (by omega)
  have:=Qg (eY d).1 (by omega)
  exact ⟨h7,by omega⟩
section
variable {E:AM.Heap} {o6 o7 o8 o10 o12:Nat} {oa:Option Nat} {s:Ws}
theorem aaq {m i c:Nat} {x:Px} {l:List Px} (h:FxV E o6 o7 o8 o10 o12 oa s) (hl:s.k≤6000000) (hx:l[i]? = some x) (hll:l.length≤100000) (hm:nN x = true):∃ E' oa',FxV E' o6 o7 o8 o10 o12 oa' (pxW s x)∧∃ code,((Try.f42.body).bind (aB [1,1,1,1,1,1,1,1,0,1,0,0,1,1])) = some code∧Run X (evT X) 42 m code (oz o6 o7 o8 o10 o12 c l i ++ [(49,.bool true)]) E ⟨.normal,oz o6 o7 o8 o10 o12 c l (i + 1),E'⟩:=by
 have hx':(l.map pxR)[i]? = some (pxR x):=by rw [atI,hx];rfl
 have hi:=dR hx
 have hiI:(i:Int) < (l.length:Int):=by omega
 have hlm:(l.map pxR).length = l.length:=by simp
 have Sz:∃ code,((Try.f42.body).bind (aB [1,1,1,1,1,1,1,1,0,1,0,0,1,1,0,0,0])) = some code∧Run X (evT X) 42 m code (oz o6 o7 o8 o10 o12 c l i ++ [(49,.bool true)]) E ⟨.normal,yt o6 o7 o8 o10 o12 E.length c l i,E ++ [some (pxO x)]⟩:=by
  refine ⟨_,rfl,?_⟩
  simp only [oz,yt,pxO,pxR] at hx' ⊢
  generalize l.map pxR = R at *
  generalize l.length = N at *
  (refine ⟨0,?_⟩;simp [-getElem?_pos,go_sem,eqV,ah,hx',hi,hiI,hlm,acC,ng,retag,Bq,xB,splice,jq,scalars,scalar])
 have hF0:=h.cat [some (pxO x)]
 have hq0:(E ++ [some (pxO x)])[E.length]? = some (some (pxO x)):=by simp
 have hlt:=h.wr.lt
 generalize E ++ [some (pxO x)] = E0 at *
 have hqn:E.length ≠ o12∧∀ a,oa = some a→E.length ≠ a:=⟨by omega,fun a ha=>by have:=hlt.2 a ha;omega⟩
 generalize E.length = q at *
 have aar:∃ code,((Try.f42.body).bind (aB [1,1,1,1,1,1,1,1,0,1,0,0,1,1,0,0,1,0,0])) = some code∧Run X (evT X) 42 m code (yt o6 o7 o8 o10 o12 q c l i) E0 ⟨.normal,yt o6 o7 o8 o10 o12 q c l i ++ [(54,.bool (decide (x.len = 0)))],E0⟩:=by
  refine ⟨_,rfl,?_⟩
  simp only [yt,pxO,pxR] at hq0 ⊢
  generalize l.map pxR = R at *
  generalize l.length = N at *
  by_cases h0:x.len = 0
  ·rw [decide_eq_true h0]
   rw [h0] at hq0
   (refine ⟨0,?_⟩;simp [-getElem?_pos,go_sem,eqV,ah,hq0])
  ·have h0b:(x.len == 0) = false:=by simpa using h0
   rw [decide_eq_false h0]
   (refine ⟨0,?_⟩;simp [-getElem?_pos,go_sem,eqV,ah,hq0,h0,h0b])
 have w1:IntKind.i64.wrap ((i:Int) + 1) = ((i + 1:Nat):Int):=by rw [wrap_i64 (by omega) (by omega)];omega
 have agq:∀ E',∃ code,((Try.f42.body).bind (aB [1,1,1,1,1,1,1,1,0,1,0,0,1,1,1])) = some code∧Run X (evT X) 42 m code (oz o6 o7 o8 o10 o12 c l i) E' ⟨.normal,oz o6 o7 o8 o10 o12 c l (i + 1),E'⟩:=by
  intro E'
  refine ⟨_,rfl,?_⟩
  simp only [oz]
  generalize l.map pxR = R at *
  generalize l.length = N at *
  generalize i + 1 = i1 at *
  (refine ⟨0,?_⟩;simp [-getElem?_pos,go_sem,eqV,ah,w1])
 unfold pxW
 by_cases h0:x.len = 0
 ·rw [if_pos h0]
  rw [decide_eq_true h0] at aar
  obtain ⟨E1,oa1,g1,g2,g3⟩:=acF (m:=m) (i:=i) (c:=c) (l:=l) (tl:=[(54,.bool true)]) hF0 (by omega) hq0
  refine ⟨E1,oa1,g1,_,rfl,?_⟩
  apply Run.seq (fr':=oz o6 o7 o8 o10 o12 c l i) (H':=E1)
  ·refine Run.iL ?_
   apply Run.seq (piece Sz _ rfl)
   refine Run.bI ?_ (by simp)
   apply Run.seq (piece aar _ rfl)
   refine Run.cond (d:=true) (by simp [yt,aJ,ay]) ?_
   exact Run.seq (piece g3 _ rfl) ⟨0,rfl⟩
  ·exact piece (agq E1) _ rfl
 ·rw [if_neg h0]
  rw [decide_eq_false h0] at aar
  obtain ⟨n,d,hn,hd,n3,n258,d1⟩:=KD hm h0
  have hd2:=Oe hm h0
  have en:x.len.toNat = n:=by omega
  have ed:x.dist.toNat = d:=by omega
  rw [en,ed]
  obtain ⟨a1,a2,a3,a4,a5⟩:=vX n (by omega) n3
  obtain ⟨b1,b2,b3,b4⟩:=vY d1 (by omega)
  have f1:=CZ (lenOf n).1 (by omega)
  have f2:=Qg (eY d).1 (by omega)
  have ao8:=acG (m:=m) (E:=E0) (o6:=o6) (o7:=o7) (o8:=o8) (o10:=o10) (o12:=o12) (i:=i) (c:=c) (l:=l) (tl:=[(54,.bool false)]) hn n258 hq0
  obtain ⟨E1,oa1,g1,g2,g3⟩:=acI (m:=m) (i:=i) (q:=q) (u:=(lenOf n).1) (v:=(lenOf n).2.1) (w:=(lenOf n).2.2) (c:=c) (l:=l) hF0 (by omega) (by omega)
  have k1:=(kL (cs:=lcL) (ls:=flL) (y:=(lenOf n).1) h.ok).2
  have kq:∀ {E2:AM.Heap} {oa2:Option Nat},Kpw E0 E2 o12 oa oa2→E2[q]? = some (some (pxO x)):=fun hk=>by rw [hk.rest q (dR hq0) hqn.1 hqn.2];exact hq0
  obtain ⟨E2,oa2,g4,g5,g6⟩:=acK (m:=m) (i:=i) (q:=q) (v:=(lenOf n).2.1) (w:=(lenOf n).2.2) (c:=c) (l:=l) g1 (by omega) hn (by omega) a3 (by omega) (kq g2)
  have k2:=(eu (x:=x.len - ((lenOf n).2.1:Nat)) g1.ok (lenOf n).2.2).2
  have ao9:=acH (m:=m) (o6:=o6) (o7:=o7) (o8:=o8) (o10:=o10) (o12:=o12) (i:=i) (c:=c) (l:=l) hd d1 (by omega) (kq (g2.trans g5))
  obtain ⟨E3,oa3,g7,g8,g9⟩:=acJ (m:=m) (i:=i) (q:=q) (u:=(eY d).1) (v:=(eY d).2.1) (w:=(eY d).2.2) (c:=c) (l:=l) g4 (by omega) (by omega)
  have k3:=(kL (cs:=dcL) (ls:=flD) (y:=(eY d).1) g4.ok).2
  obtain ⟨E4,oa4,g10,g11,g12⟩:=acL (m:=m) (i:=i) (q:=q) (v:=(eY d).2.1) (w:=(eY d).2.2) (c:=c) (l:=l) g7 (by omega) hd (by omega) b2 (by omega) (kq ((g2.trans g5).trans g8))
  refine ⟨E4,oa4,g10,_,rfl,?_⟩
  apply Run.seq (fr':=oz o6 o7 o8 o10 o12 c l i) (H':=E4)
  ·refine Run.block ?_ (by simp)
   apply Run.seq (piece Sz _ rfl)
   apply Run.seq (fr':=yt o6 o7 o8 o10 o12 q c l i ++ [(54,.bool false)]) (H':=E0)
   ·apply Run.seq (piece aar _ rfl)
    exact Run.cond (d:=false) (by simp [yt,aJ,ay]) ⟨0,rfl⟩
   apply Run.seq (piece ao8 _ rfl)
   apply Run.seq (piece g3 _ rfl)
   apply Run.seq (piece g6 _ rfl)
   apply Run.seq (piece ao9 _ rfl)
   apply Run.seq (piece g9 _ rfl)
   exact piece g12 _ rfl
  ·exact piece (agq E4) _ rfl
end
theorem Jt:∀ {l:List Px} {o:List UInt8},(kF l o).2 = 0→∀ x ∈ l,nN x = true
 | [],_,_,x,hx=>by cases hx
 | y :: l,o,h,x,hx=>by
  unfold kF at h
  split at h
  ·cases h
  ·rename_i hm
   have hm:nN y = true:=by simpa using hm
   rcases atX.1 hx with rfl | hx
   ·exact hm
   ·split at h
    ·exact Jt h x hx
    ·split at h
     ·cases h
     ·exact Jt h x hx
theorem ER:∀ (l:List Px) (s:Ws),jD s→(∀ x ∈ l,nN x = true)→jD (l.foldl pxW s)∧(l.foldl pxW s).k≤s.k + 40 * l.length
 | [],s,h,_=>⟨h,by simp⟩
 | x :: l,s,h,hm=>by
  obtain ⟨h1,h2⟩:=Ov h (hm x (auz ..))
  obtain ⟨h3,h4⟩:=ER l (pxW s x) h1 fun y hy=>hm y (auc _ hy)
  exact ⟨h3,by simp only [avO,atV];omega⟩
section
variable {E:AM.Heap} {o6 o7 o8 o10 o12:Nat} {oa:Option Nat} {s:Ws}
theorem Y0 {m c:Nat} {l:List Px} (h:FxV E o6 o7 o8 o10 o12 oa s) (hs:s.k≤100) (hll:l.length≤2000) (hm:∀ x ∈ l,nN x = true):∃ code,((Try.f42.body).bind (aB [1,1,1,1,1,1,1,1,0,1])) = some code∧aj (Goes fun fr E'=>∃ oa',fr = oz o6 o7 o8 o10 o12 c l l.length ++ [(49,.bool false)]∧FxV E' o6 o7 o8 o10 o12 oa' (l.foldl pxW s)) X (evT X) 42 m code (oz o6 o7 o8 o10 o12 c l 0) E:=by
 refine ⟨_,rfl,?_⟩
 apply aj.block
 refine aj.kQ (I:=fun k fr E'=>∃ i oa' s',i≤l.length∧k = l.length - i∧fr = oz o6 o7 o8 o10 o12 c l i∧FxV E' o6 o7 o8 o10 o12 oa' s'∧s'.k≤100 + 40 * i∧(l.drop i).foldl pxW s' = l.foldl pxW s) ?_ (k:=l.length) ⟨0,oa,s,by omega,rfl,rfl,h,by omega,rfl⟩
 rintro k fr E' ⟨i,oa',s',hi,rfl,rfl,hF,hk,hf⟩
 by_cases hin:i = l.length
 ·rw [avl (by omega),List.foldl_nil] at hf
  refine aj.of (o:=⟨.exit 0,oz o6 o7 o8 o10 o12 c l i ++ [(49,.bool false)],E'⟩) ?_ (.inr ⟨by simp,rfl,oa',by rw [hin],by rw [← hf];exact hF⟩)
  subst hin
  refine ⟨0,?_⟩
  simp only [oz]
  generalize l.map pxR = R at *
  generalize l.length = N at *
  simp [-getElem?_pos,go_sem,eqV,ah]
 ·have hlt:i < l.length:=by omega
  have qQ:(i:Int) < (l.length:Int):=by omega
  obtain ⟨x,hx⟩:∃ x,l[i]? = some x:=⟨_,atB hlt⟩
  have hmx:=hm x (atL hx)
  have hdrop:l.drop i = x :: l.drop (i + 1):=by
   rw [auw hlt]
   rw [atB hlt] at hx
   rw [atK hx]
  rw [hdrop,avO] at hf
  obtain ⟨E2,oa2,g1,g2⟩:=aaq (m:=m) (c:=c) hF (by omega) hx (by omega) hmx
  have hk2:=(Ov hF.ok hmx).2
  refine aj.of (o:=⟨.normal,oz o6 o7 o8 o10 o12 c l (i + 1),E2⟩) ?_ (.inl ⟨rfl,l.length - (i + 1),by omega,i + 1,oa2,_,by omega,rfl,rfl,g1,by omega,hf⟩)
  apply Run.seq (fr':=oz o6 o7 o8 o10 o12 c l i ++ [(49,.bool true)]) (H':=E')
  ·simp only [oz]
   generalize l.map pxR = R at *
   generalize l.length = N at *
   (refine ⟨0,?_⟩;simp [-getElem?_pos,go_sem,eqV,ah,qQ,hlt])
  apply Run.seq (fr':=oz o6 o7 o8 o10 o12 c l i ++ [(49,.bool true)]) (H':=E')
  ·exact Run.cond (d:=true) (by simp [oz,aJ,ay]) ⟨0,rfl⟩
  exact piece g2 _ rfl
theorem aa8 {m c i:Nat} {l:List Px} {tl:AM.Frame} (h:FxV E o6 o7 o8 o10 o12 oa s) (hl:s.k≤7000000):∃ E' oa',FxV E' o6 o7 o8 o10 o12 oa' (jO s lcL flL 256)∧∃ code,((Try.f42.body).bind (aB [1,1,1,1,1,1,1,1,1,0])) = some code∧Run X (evT X) 42 m code (oz o6 o7 o8 o10 o12 c l i ++ tl) E ⟨.normal,[(12,.ptr o12 0 0 0)],E'⟩:=by
 obtain ⟨n0,n9⟩:=CZ 256 (by omega)
 have hc:=sQ (l:=lcL) (y:=256) (by unfold lcL;rw [vC,rZ];omega)
 have hf:=sQ (l:=flL) (y:=256) (by rw [rZ];omega)
 obtain ⟨E',oa',g1,g2,g3⟩:=zI (x:=lcL.getD 256 0) (I:=flL.getD 256 0) (n:=(flL.getD 256 0).toNat) (by omega) h.wr h.ok (by omega) (by omega)
 have hs:=kL (cs:=lcL) (ls:=flL) (y:=256) h.ok
 refine ⟨E',oa',h.step g2 g3 hs.1,_,rfl,?_⟩
 have q6:=h.r6;have q8:=h.r8
 simp only [flO,lI] at q6 q8
 simp only [oz]
 generalize lcL.getD 256 0 = v1 at *
 generalize flL.getD 256 0 = v2 at *
 generalize l.map pxR = R at *
 generalize l.length = N at *
 generalize lcL = LC at *
 generalize flL = LL at *
 (refine ⟨0,?_⟩;simp [-getElem?_pos,go_sem,eqV,ah,retag,q6,q8,hc,hf,g1])
theorem aa9 {m:Nat} (h:FxV E o6 o7 o8 o10 o12 oa s) (hne:s.o ≠ []):∃ a g ob,E[a]? = some (some ob)∧Rw (.pb s.o) g ob∧∃ code,((Try.f42.body).bind (aB [1,1,1,1,1,1,1,1,1,1,0])) = some code∧Run X (evT X) 42 m code [(12,.ptr o12 0 0 0)] E ⟨.normal,[(2,.sl a 0 s.o.length g),(3,.int .i64 0)],E⟩:=by
 obtain ⟨⟨vo,τ,a1,h0,ho⟩,hn⟩:=id h.wr
 cases hq:oa with
 | none=>rw [hq] at ho;exact absurd ho.1 hne
 | some a =>
  rw [hq] at ho
  obtain ⟨g,τ2,ob,hτ2,rfl,h3,h4⟩:=ho
  have ht:τ2 = 0:=hτ2.elim id id
  refine ⟨a,g,ob,h3,⟨h4.p,h4.g,h4.row,h4.ids,by rw [h4.tg,ht]⟩,_,rfl,?_⟩
  simp only [jy] at h0
  generalize s.o.length = N at *
  (refine ⟨0,?_⟩;simp [-getElem?_pos,go_sem,eqV,ah,h0,ak])
end
end Go.Proofs.Ytbodincpjijdiaa
