/- DB to DI: texts of this claim, one behind the other; what each shows stands at its head. -/
import Derived.Test.YteblpjhkgdpchaaAm4
import Derived.Test.YteblpjhkgdpchaaMg1
set_option linter.unusedSimpArgs false
set_option linter.unusedVariables false
set_option maxRecDepth 100000
set_option maxHeartbeats 8000000
namespace Go.Proofs.Yteblpjhkgdpchaa
open Go.AM
abbrev Pls:=List (List UInt8 × List Nat)
def bxN (v:AV) (τ:Nat):AM.Obj:=⟨.pc [v],0,some 1,1,false,true,τ⟩
def pmO (l:List AV) (τ:Nat):AM.Obj:=⟨.pm l,0,none,1,false,true,τ⟩
def gY (l:List Nat):AV:=.pi .i64 (l.map Int.ofNat)
def ntE:List (Nat × Nat)→Pls→List AV
 | x :: ex,y :: M=>.pc [.agg (.pb y.1),.sl x.1 0 y.2.length x.2] :: ntE ex M
 | _,_=>[]
def pid (d n:Nat):List (Nat × Nat):=(List.range n).map fun k=>(d + k,0)
theorem GK {d n k:Nat} (h:k < n):(pid d n)[k]? = some (d + k,0):=by
 unfold pid
 rw [List.getElem?_map,List.getElem?_range h];rfl
theorem qw (d n:Nat):(pid d n).length = n:=by simp [pid]
theorem y7 (d n:Nat):pid d (n + 1) = (d,0) :: pid (d + 1) n:=by
 refine List.ext_getElem? fun k=>?_
 cases k with
 | zero=>rw [GK (by omega)];rfl
 | succ k =>
  rw [List.getElem?_cons_succ]
  by_cases h:k < n
  ·rw [GK (by omega),GK h,show d + (k + 1) = d + 1 + k by omega]
  ·rw [List.getElem?_eq_none (by rw [qw];omega),List.getElem?_eq_none (by rw [qw];omega)]
theorem vZ:∀ {ex:List (Nat × Nat)} {M:Pls},ex.length = M.length→(ntE ex M).length = M.length
 | [],[],_=>rfl
 | x :: ex,y :: M,h=>by simp [ntE,vZ (ex:=ex) (M:=M) (by simpa using h)]
 | [],_ :: _,h=>by simp at h
 | _ :: _,[],h=>by simp at h
theorem Qg:∀ {ex:List (Nat × Nat)} {M:Pls} {j:Nat} {x:Nat × Nat} {y:List UInt8 × List Nat},ex[j]? = some x→M[j]? = some y→(ntE ex M)[j]? = some (.pc [.agg (.pb y.1),.sl x.1 0 y.2.length x.2])
 | [],_,_,_,_,h,_=>by simp at h
 | _ :: _,[],_,_,_,_,h=>by simp at h
 | a :: ex,c :: M,0,x,y,h,h2=>by
  simp at h h2
  subst h h2
  rfl
 | a :: ex,c :: M,j + 1,x,y,h,h2=>by
  simp only [ntE,List.getElem?_cons_succ]
  exact Qg (by simpa using h) (by simpa using h2)
theorem MK:∀ {ex:List (Nat × Nat)} {M:Pls} {j:Nat} {x:Nat × Nat} {y:List UInt8 × List Nat},ex.length = M.length→(ntE ex M).set j (.pc [.agg (.pb y.1),.sl x.1 0 y.2.length x.2]) = ntE (ex.set j x) (M.set j y)
 | [],[],_,_,_,_=>rfl
 | _ :: _,[],_,_,_,h=>by simp at h
 | [],_ :: _,_,_,_,h=>by simp at h
 | a :: ex,c :: M,0,x,y,h=>rfl
 | a :: ex,c :: M,j + 1,x,y,h=>by
  simp only [ntE,List.set_cons_succ]
  rw [MK (by simpa using h)]
theorem ML:∀ {ex:List (Nat × Nat)} {M:Pls} {x:Nat × Nat} {y:List UInt8 × List Nat},ex.length = M.length→ntE ex M ++ [.pc [.agg (.pb y.1),.sl x.1 0 y.2.length x.2]] = ntE (ex ++ [x]) (M ++ [y])
 | [],[],_,_,_=>rfl
 | _ :: _,[],_,_,h=>by simp at h
 | [],_ :: _,_,_,h=>by simp at h
 | a :: ex,c :: M,x,y,h=>by
  simp only [ntE,List.cons_append]
  rw [ML (by simpa using h)]
theorem y8:∀ {ex:List (Nat × Nat)} {M:Pls},ex.length = M.length→aT (ntE ex M) = ex.map Prod.fst
 | [],[],_=>rfl
 | _ :: _,[],h=>by simp at h
 | [],_ :: _,h=>by simp at h
 | a :: ex,c :: M,h=>by
  have:=y8 (ex:=ex) (M:=M) (by simpa using h)
  simp [ntE,aT,ids,this]
theorem Jv:∀ {ex:List (Nat × Nat)} {M:Pls},bW (ntE ex M) = []
 | [],_=>by simp [ntE,bW]
 | _ :: _,[]=>rfl
 | a :: ex,c :: M=>by
  have:=Jv (ex:=ex) (M:=M)
  simp [ntE,bW,tags,this]
theorem GL {π:List (Nat × Nat)} {τ:Nat→Nat}:∀ {ex:List (Nat × Nat)} {M:Pls} {d:Nat},ex.length = M.length→(∀ k,k < M.length→π[d + k]? = ex[k]?)→dN (kT π) τ (ntE (pid d M.length) M) = ntE ex M
 | [],[],_,_,_=>rfl
 | _ :: _,[],_,h,_=>by simp at h
 | [],_ :: _,_,h,_=>by simp at h
 | a :: ex,c :: M,d,h,hk=>by
  rw [List.length_cons,y7]
  simp only [ntE,dN,ren]
  have h0:=hk 0 (by simp)
  simp at h0
  have hr:kT π d 0 = some a:=by unfold kT;rw [h0]
  rw [hr]
  simp only
  rw [GL (ex:=ex) (M:=M) (d:=d + 1) (by simpa using h) (fun k hk2=>by
   have:=hk (k + 1) (by rw [List.length_cons];omega)
   rw [show d + 1 + k = d + (k + 1) by omega,this,List.getElem?_cons_succ])]
theorem Qh {x p:AV} (h:ren idN tz x = .agg p):∃ q,x = .agg q∧ren idN tz q = p:=by
 cases x <;> simp only [ren,idN,reduceCtorEq,AV.agg.injEq] at h
 exact ⟨_,rfl,h⟩
theorem MN:∀ {ex:List (Nat × Nat)} {M:Pls} {l:List AV},dN idN tz l = ntE ex M→l = ntE ex M
 | [],M,l,h=>by simp only [ntE] at h ⊢;exact vV h
 | _ :: _,[],l,h=>by simp only [ntE] at h ⊢;exact vV h
 | a :: ex,c :: M,l,h=>by
  simp only [ntE] at h
  obtain ⟨x,l',rfl,h1,h2⟩:=pG h
  obtain ⟨l1,rfl,h3⟩:=Gj h1
  obtain ⟨y1,l2,rfl,h4,h5⟩:=pG h3
  obtain ⟨y2,l3,rfl,h6,h7⟩:=pG h5
  obtain rfl:=vV h7
  obtain ⟨q,rfl,h8⟩:=Qh h4
  obtain rfl:=PL h8
  obtain rfl:=PK h6
  rw [MN h2]
  rfl
theorem Qi {ex:List (Nat × Nat)} {M:Pls}:dN idN tz (ntE ex M) = ntE ex M:=by
 induction ex generalizing M with
 | nil=>simp [ntE,dN]
 | cons a ex ih =>
  cases M with
  | nil=>rfl
  | cons c M=>simp [ntE,dN,ren,idN,ih]
def ntS (c:Nat) (b:List UInt8) (M:Pls):List AM.Obj:=[bxN (.ro c (.pb b) 0) 0,bxN (.map 2 0) 0,pmO (ntE (pid 3 M.length) M) 0] ++ (M.map fun y=>gY y.2).map rwF
structure NtV (c:Nat) (b:List UInt8) (t:Nat) (H:AM.Heap) (o1 o4 om:Nat) (ex:List (Nat × Nat)) (M:Pls):Prop where
 bx:∃ τ1 τ,(τ1 = 0∨τ1 = t)∧(τ = 0∨τ = t)∧H[o1]? = some (some (bxN (.ro c (.pb b) τ1) τ))
 mb:∃ τ,(τ = 0∨τ = t)∧H[o4]? = some (some (bxN (.map om 0) τ))
 mp:∃ τ,(τ = 0∨τ = t)∧H[om]? = some (some (pmO (ntE ex M) τ))
 rows:fA t H ex (M.map fun y=>gY y.2)
 nd:(o1 :: o4 :: om :: ex.map Prod.fst).Nodup
section
variable {c:Nat} {b:List UInt8} {t:Nat} {H:AM.Heap} {o1 o4 om:Nat} {ex:List (Nat × Nat)} {M:Pls} {π:List (Nat × Nat)}
theorem NtV.len (h:NtV c b t H o1 o4 om ex M):ex.length = M.length:=by have:=h.rows.len;simpa using this
theorem EY:∀ p ∈ M.map (fun y=>gY y.2),ids p = []∧tags p = []:=by
 intro p hp
 obtain ⟨y,_,rfl⟩:=List.mem_map.1 hp
 exact ⟨rfl,rfl⟩
theorem TD {π0:List (Nat × Nat)}:∀ {ex:List (Nat × Nat)} {ps:List AV},fA t H ex ps→(∀ p ∈ ps,ids p = []∧tags p = [])→GN t H π0 ex (ps.map rwF)
 | [],[],_,_=>trivial
 | x :: r,p :: ps,h,hf=>by
  obtain ⟨⟨τ,ob,h1,h2,h3⟩,h4⟩:=h
  obtain ⟨f1,f2⟩:=hf p (List.mem_cons_self ..)
  exact ⟨⟨ob,h2,Like.OH h3 f1 f2 h1⟩,TD h4 fun q hq=>hf q (List.mem_cons_of_mem _ hq)⟩
 | [],_ :: _,h,_=>h.elim
 | _ :: _,[],h,_=>h.elim
theorem NtV.img (h:NtV c b t H o1 o4 om ex M):Img t H ((o1,0) :: (o4,0) :: (om,0) :: ex) (ntS c b M):=by
 refine Img.ofL ?_ (by simpa using h.nd)
 obtain ⟨τ1,τ,a1,a2,h1⟩:=h.bx
 obtain ⟨τ2,b2,h2⟩:=h.mb
 obtain ⟨τ3,b3,h3⟩:=h.mp
 refine ⟨⟨_,h1,Like.Qj ?_ a2 ?_⟩,⟨_,h2,Like.Qj ?_ b2 ?_⟩,⟨_,h3,Like.Qj ?_ b3 ?_⟩,TD h.rows EY⟩
 ·simp [ren,dN]
  rfl
 ·intro k hk
  simp [tags,bW] at hk
  rw [hk];exact a1
 ·simp [ren,dN,idN,kT]
 ·intro k hk
  simp [tags,bW] at hk
 ·simp only [ren]
  rw [Qi,GL (d:=3) h.len (fun k hk=>by
   rw [show 3 + k = k + 1 + 1 + 1 by omega,List.getElem?_cons_succ,List.getElem?_cons_succ,List.getElem?_cons_succ])]
 ·intro k hk
  simp [tags,Jv] at hk
theorem NtV.C9 (h:Img t H π (ntS c b M)):∃ o1 o4 om ex,π = (o1,0) :: (o4,0) :: (om,0) :: ex∧NtV c b t H o1 o4 om ex M:=by
 obtain ⟨o1,g1,ob1,p1,q1,r1⟩:=h.ob 0 _ rfl
 obtain ⟨o4,g4,ob4,p4,q4,r4⟩:=h.ob 1 _ rfl
 obtain ⟨om,gm,obm,pm,qm,rm⟩:=h.ob 2 _ rfl
 have hR:=Img.rows (S:=[bxN (.ro c (.pb b) 0) 0,bxN (.map 2 0) 0,pmO (ntE (pid 3 M.length) M) 0]) h EY
 have hnd:=h.nodup
 obtain ⟨rfl,pp,τ,rfl,hτ,hp,ht⟩:=Like.box r1
 obtain ⟨rfl,pp2,τ2,rfl,hτ2,hp2,ht2⟩:=Like.box r4
 obtain ⟨rfl,pp3,τ3,rfl,hτ3,hp3,ht3⟩:=Like.box rm
 have hπ:π = (o1,0) :: (o4,0) :: (om,0) :: π.drop 3:=by
  match π,p1,p4,pm with
  | a :: b :: c :: r,p1,p4,pm =>
   simp at p1 p4 pm
   subst p1 p4 pm
   rfl
  | [],p1,_,_=>simp at p1
  | [_],_,p4,_=>simp at p4
  | [_,_],_,_,pm=>simp at pm
 simp only [List.length_cons,List.length_nil] at hR
 generalize hex:π.drop 3 = ex at *
 subst hπ
 have hl:=hR.len
 refine ⟨o1,o4,om,ex,rfl,?_,?_,?_,hR,by simpa using hnd⟩
 ·simp only [ren,dN] at hp
  obtain ⟨l1,rfl,k1⟩:=Gj hp
  obtain ⟨x,l2,rfl,e1,k2⟩:=pG k1
  obtain rfl:=vV k2
  obtain ⟨τ1,rfl⟩:=PI e1
  exact ⟨τ1,τ,ht τ1 (by simp [tags,bW]),hτ,q1⟩
 ·simp only [ren,dN,kT] at hp2
  obtain ⟨l1,rfl,k1⟩:=Gj hp2
  obtain ⟨x,l2,rfl,e1,k2⟩:=pG k1
  obtain rfl:=vV k2
  simp only [List.getElem?_cons_succ,List.getElem?_cons_zero] at e1
  obtain rfl:=SE e1
  exact ⟨τ2,hτ2,q4⟩
 ·simp only [ren] at hp3
  rw [GL (ex:=ex) (d:=3) (by simpa using hl) (fun k hk=>by
   rw [show 3 + k = k + 1 + 1 + 1 by omega,List.getElem?_cons_succ,List.getElem?_cons_succ,List.getElem?_cons_succ])] at hp3
  obtain ⟨l1,rfl,k1⟩:=U9 hp3
  rw [MN k1] at qm
  exact ⟨τ3,hτ3,qm⟩
end
end Go.Proofs.Yteblpjhkgdpchaa
namespace Go.Proofs.Yteblpjhkgdpchaa
open Go.AM
def qK (k:List UInt8):Pls→Nat→Option Nat
 | [],_=>none
 | y :: M,j=>if y.1 = k then some j else qK k M (j + 1)
def ntM (M:Pls) (k:List UInt8) (i:Nat):Pls:=match qK k M 0 with
 | some j=>M.set j (k,(M.getD j ([],[])).2 ++ [i])
 | none=>M ++ [(k,[i])]
def jW (b:List UInt8) (i:Nat):List UInt8:=(b.drop i).take 3
def ntB (b:List UInt8) (M:Pls) (i:Nat):Pls:=if i + 3≤b.length then ntM M (jW b i) i else M
theorem wo:∀ {M:Pls} {k:List UInt8} {j0 j:Nat},qK k M j0 = some j→j0≤j∧∃ l,M[j - j0]? = some (k,l)
 | [],_,_,_,h=>by cases h
 | y :: M,k,j0,j,h=>by
  unfold qK at h
  split at h
  ·rename_i hk
   cases h
   subst hk
   exact ⟨Nat.le_refl _,y.2,by simp⟩
  ·obtain ⟨h1,l,h2⟩:=wo h
   refine ⟨by omega,l,?_⟩
   rw [show j - j0 = (j - (j0 + 1)) + 1 by omega,List.getElem?_cons_succ]
   exact h2
theorem mW:∀ {ex:List (Nat × Nat)} {M:Pls} {k:List UInt8} {j0 j:Nat},ex.length = M.length→(∀ y ∈ M,y.1.length = k.length)→qK k M j0 = some j→∃ x l,ex[j - j0]? = some x∧M[j - j0]? = some (k,l)∧oh (.agg (.pb k)) (ntE ex M) j0 = some (some (j,.sl x.1 0 l.length x.2))
 | _,[],_,_,_,_,_,h=>by cases h
 | [],_ :: _,_,_,_,hl,_,_=>by simp at hl
 | x :: ex,y :: M,k,j0,j,hl,hk,h=>by
  have hy:=hk y (List.mem_cons_self ..)
  unfold qK at h
  simp only [ntE,oh,mg]
  rw [if_pos (by rw [hy])]
  split at h
  ·rename_i he
   cases h
   subst he
   exact ⟨x,y.2,by simp,by simp,by simp⟩
  ·rename_i he
   obtain ⟨x2,l,h1,h2,h3⟩:=mW (ex:=ex) (M:=M) (by simpa using hl) (fun z hz=>hk z (List.mem_cons_of_mem _ hz)) h
   have hj:=(wo h).1
   refine ⟨x2,l,by rw [show j - j0 = (j - (j0 + 1)) + 1 by omega,List.getElem?_cons_succ];exact h1,by rw [show j - j0 = (j - (j0 + 1)) + 1 by omega,List.getElem?_cons_succ];exact h2,?_⟩
   have hb:(k == y.1) = false:=by simpa using fun e=>he e.symm
   rw [hb]
   exact h3
theorem lF:∀ {ex:List (Nat × Nat)} {M:Pls} {k:List UInt8} {j0:Nat},ex.length = M.length→(∀ y ∈ M,y.1.length = k.length)→qK k M j0 = none→oh (.agg (.pb k)) (ntE ex M) j0 = some none
 | [],[],_,_,_,_,_=>rfl
 | _ :: _,[],_,_,hl,_,_=>by simp at hl
 | [],_ :: _,_,_,hl,_,_=>by simp at hl
 | x :: ex,y :: M,k,j0,hl,hk,h=>by
  have hy:=hk y (List.mem_cons_self ..)
  unfold qK at h
  split at h
  ·cases h
  ·rename_i he
   simp only [ntE,oh,mg]
   rw [if_pos (by rw [hy])]
   have hb:(k == y.1) = false:=by simpa using fun e=>he e.symm
   rw [hb]
   exact lF (by simpa using hl) (fun z hz=>hk z (List.mem_cons_of_mem _ hz)) h
theorem key_eq {b:List UInt8} {i:Nat} {x y z:UInt8} (hx:b[i]? = some x) (hy:b[i + 1]? = some y) (hz:b[i + 2]? = some z):jW b i = [x,y,z]:=by
 unfold jW
 have h2:i + 2 < b.length:=(List.getElem?_eq_some_iff.1 hz).1
 rw [List.drop_eq_getElem_cons (by omega),List.drop_eq_getElem_cons (by omega),List.drop_eq_getElem_cons (by omega)]
 rw [List.getElem?_eq_getElem (by omega)] at hx hy hz
 simp only [List.take_succ_cons,List.take_zero]
 rw [Option.some.inj hx,Option.some.inj hy,Option.some.inj hz]
def keO (k:List UInt8):AM.Obj:=⟨.pb k,0,some 3,1,false,false,0⟩
section
variable {c:Nat} {b:List UInt8} {t:Nat} {H:AM.Heap} {o1 o4 om:Nat} {ex:List (Nat × Nat)} {M:Pls}
theorem Xk {m i:Nat} {E:AM.Heap} (h:NtV c b t E 0 1 2 ex M) (hi:i≤100000) (hb:b.length≤100000):∃ code,((Try.f23.body).bind (aS [0])) = some code∧Run X (evT X) 23 m code [(0,.int .i64 (i:Nat)),(1,.ptr 0 0 0 0),(2,.ptr 1 0 0 0)] E ⟨.normal,[(0,.int .i64 (i:Nat)),(1,.ptr 0 0 0 0),(2,.ptr 1 0 0 0),(9,.bool (decide (i + 3≤b.length)))],E⟩:=by
 refine ⟨_,rfl,?_⟩
 obtain ⟨τ1,τ,_,_,h1⟩:=h.bx
 simp only [bxN] at h1
 have w1:IntKind.i64.wrap ((i:Int) + 3) = ((i + 3:Nat):Int):=by rw [wrap_i64 (by omega) (by omega)];omega
 by_cases hl:i + 3≤b.length
 ·have hlI:((i + 3:Nat):Int)≤(b.length:Int):=by omega
  rw [decide_eq_true hl]
  generalize i + 3 = i3 at *
  (refine ⟨0,?_⟩;simp (maxSteps:=2000000) -implicitDefEqProofs [-getElem?_pos,go_sem,eqV,aj,h1,w1,hl,hlI])
 ·have hlI:¬ ((i + 3:Nat):Int)≤(b.length:Int):=by omega
  rw [decide_eq_false hl]
  generalize i + 3 = i3 at *
  (refine ⟨0,?_⟩;simp (maxSteps:=2000000) -implicitDefEqProofs [-getElem?_pos,go_sem,eqV,aj,h1,w1,hl,hlI])
theorem Qk (x y z:UInt8):qF X 40 [(0,.int .u8 (x.toNat:Nat)),(1,.int .u8 (y.toNat:Nat)),(2,.int .u8 (z.toNat:Nat))] = some (.agg (.pb [x,y,z])):=by
 have hx:=x.toNat_lt;have hy:=y.toNat_lt;have hz:=z.toNat_lt
 have h:∀ u v w:Int,qF X 40 [(0,.int .u8 u),(1,.int .u8 v),(2,.int .u8 w)] = ((jT [.int .u8 u,.int .u8 v,.int .u8 w]).map .pb).map .agg:=by
  intro u v w
  kernel_rfl
 rw [h]
 have a1:(x.toNat:Int) < 256:=by omega
 have a2:(y.toNat:Int) < 256:=by omega
 have a3:(z.toNat:Int) < 256:=by omega
 simp [jT,a1,a2,a3]
theorem Xl {m i:Nat} {E:AM.Heap} (h:NtV c b t E 0 1 2 ex M) (hi:i + 3≤b.length) (hb:b.length≤100000):∃ code,((Try.f23.body).bind (aS [1,0,0])) = some code∧Run X (evT X) 23 m code [(0,.int .i64 (i:Nat)),(1,.ptr 0 0 0 0),(2,.ptr 1 0 0 0),(9,.bool true)] E ⟨.normal,[(0,.int .i64 (i:Nat)),(2,.ptr 1 0 0 0),(4,.ptr E.length 0 0 0)],E ++ [some (keO (jW b i))]⟩:=by
 refine ⟨_,rfl,?_⟩
 obtain ⟨τ1,τ,_,_,h1⟩:=h.bx
 simp only [bxN] at h1
 have hE:=iF h1
 have hE2:¬ E.length = 0:=by omega
 have h1':(E ++ [some (keO [0,0,0])])[0]? = E[0]?:=List.getElem?_append_left hE
 obtain ⟨x,hx⟩:∃ x,b[i]? = some x:=⟨_,List.getElem?_eq_getElem (by omega)⟩
 obtain ⟨y,hy⟩:∃ x,b[i + 1]? = some x:=⟨_,List.getElem?_eq_getElem (by omega)⟩
 obtain ⟨z,hz⟩:∃ x,b[i + 2]? = some x:=⟨_,List.getElem?_eq_getElem (by omega)⟩
 rw [key_eq hx hy hz]
 have w1:IntKind.i64.wrap ((i:Int) + 1) = ((i + 1:Nat):Int):=by rw [wrap_i64 (by omega) (by omega)];omega
 have w2:IntKind.i64.wrap ((i:Int) + 2) = ((i + 2:Nat):Int):=by rw [wrap_i64 (by omega) (by omega)];omega
 have l0:i < b.length:=by omega
 have l1:i + 1 < b.length:=by omega
 have l2:i + 2 < b.length:=by omega
 have l0I:(i:Int) < (b.length:Int):=by omega
 have l1I:((i + 1:Nat):Int) < (b.length:Int):=by omega
 have l2I:((i + 2:Nat):Int) < (b.length:Int):=by omega
 simp only [keO]
 generalize i + 1 = i1 at *
 generalize i + 2 = i2 at *
 apply Run.dy (by simp) P6 (by simp)
 ·(conv=>lhs;simp (maxSteps:=2000000) -implicitDefEqProofs [-getElem?_pos,go_sem,eqV,aj,lI,out1,dn,sZ,o9,pushes,yS,kQ,touched,mentioned,lU,jA,fP,tq,Op.operands,ids,aT,aO,fU,eY,iP,Df,h1,hx,hy,hz,w1,w2,l0,l1,l2,l0I,l1I,l2I,Qk,Fp,A8,Gf])
 ·refine KR (ps:=[(0,1),(0,4),(1,4),(2,4),(3,4),(0,5),(1,5),(2,5),(3,5),(4,5),(0,6),(1,6),(2,6),(3,6),(4,6),(0,7),(1,7),(2,7),(3,7),(0,8),(1,8),(2,8),(3,8),(0,9),(1,9),(2,9),(3,9),(4,9),(5,9),(6,9),(7,9),(8,9),(0,10),(1,10),(2,10),(3,10),(4,10),(5,10),(6,10),(7,10),(8,10),(9,10),(0,11),(1,11),(2,11),(3,11),(4,11),(5,11),(6,11),(7,11),(8,11),(9,11),(0,12),(1,12),(2,12),(3,12),(4,12),(5,12),(6,12),(7,12),(8,12),(0,13),(1,13),(2,13),(3,13),(4,13),(5,13),(6,13),(7,13),(8,13),(0,15),(1,15),(2,15),(3,15),(4,15),(5,15),(6,15),(7,15),(8,15),(9,15),(10,15),(11,15),(12,15),(13,15),(14,15)]) (by kernel_rfl) ?_
  simp [TF,bear,disjoint,CQ,Call.operands,aK,aI,aT,ids,Gf,hE,hE2]
 ·rfl
end
end Go.Proofs.Yteblpjhkgdpchaa
namespace Go.Proofs.Yteblpjhkgdpchaa
open Go.AM
theorem bsN (H:AM.Heap) (x:Int):dL X H 41 1 [(0,.int .i64 x)] = some (.ro 1 (.pi .i64 [x]) 0,H):=by kernel_rfl
theorem Xm (x y z:UInt8):rX X 39 (.agg (.pb [x,y,z])) = true:=by kernel_rfl
theorem TG:bG X (mD X 39) = .ro 0 .pn 0:=by kernel_rfl
theorem SG {H:AM.Heap} {o g t:Nat} {ob:AM.Obj} {l:List Nat} {y:Nat} (ho:H[o]? = some (some ob)) (h:RwT (gY l) g t ob) (hn:l.length≤10000000) :
  ∃ ob',RwT (gY (l ++ [y])) (g + 1) t ob'∧dV X H 41 (.sl o 0 l.length g) (.ro 1 (.pi .i64 [(y:Int)]) 0) = some (.sl o 0 (l.length + 1) (g + 1),upd H o (some ob')):=by
 have hlive:live H o g = some ob:=by simp [live,ho,h.g]
 have hroom:ji X 3 (l.length + 1) = true:=by simp [ji];omega
 have hj:gu t 0 = some t:=by
  unfold gu
  by_cases h0:t = 0
  ·rw [if_pos h0,h0]
  ·rw [if_neg h0,if_pos (.inl rfl)]
 have hsrc:kD H (.ro 1 (.pi .i64 [(y:Int)]) 0) = some (.pi .i64 [(y:Int)],0):=by simp [kD,oM,qO]
 have hp:ob.p = .pi .i64 (l.map Int.ofNat):=h.p
 refine ⟨{ ob with p:=gY (l ++ [y]),g:=g + 1,cap:=(match ob.cap with | some c=>if 0 + l.length + AM.aj (.pi .i64 [(y:Int)])≤c then some (c - 0) else none | none=>none),z:=(if AM.aj ob.p = 0 then ob.z else 1),tg:=t },⟨rfl,rfl,h.row,h.ids,rfl⟩,?_⟩
 unfold dV
 simp only [TB,size3,WY,hsrc,hlive,h.row,h.ids,hp,h.tg]
 simp only [show ¬ ((1:Nat) = 0∨true = false) by simp,if_false]
 have hc:True∧True∧0 + l.length = AM.aj (.pi .i64 (l.map Int.ofNat))∧aQ (.pi .i64 (l.map Int.ofNat)) = 1∧ji X 3 (l.length + AM.aj (.pi .i64 [(y:Int)])) = true:=⟨trivial,trivial,by simp [AM.aj],rfl,by simpa [AM.aj] using hroom⟩
 rw [if_pos hc]
 have hs:jo (.pi .i64 (l.map Int.ofNat)) 0 l.length = some (.pi .i64 (l.map Int.ofNat)):=by
  simp [jo]
  exact List.take_of_length_le (by simp)
 simp only [hs,tJ,hj,aQ]
 simp [AM.aj,gY]
 rfl
theorem SH (H:AM.Heap) (y:Nat):dV X H 41 (.ro 0 .pn 0) (.ro 1 (.pi .i64 [(y:Int)]) 0) = some (.sl H.length 0 1 0,H ++ [some ⟨gY [y],0,none,0,true,false,0⟩]):=by
 simp only [dV,TB,size3,WY]
 simp [kD,oM,aj,qO,ji,tJ,dB,aQ,gY]
section
variable {c:Nat} {b:List UInt8} {t:Nat} {H:AM.Heap} {ex:List (Nat × Nat)} {M:Pls}
def Xn (i p:Nat):AM.Frame:=[(0,.int .i64 (i:Nat)),(2,.ptr 1 0 0 0),(4,.ptr p 0 0 0)]
theorem TI {m i p k:Nat} {v0 v1:AV} {E E1 E2 E3:AM.Heap} {τ:Nat} {key:List UInt8} (h4:E[1]? = some (some (bxN (.map 2 0) τ))) (hp:E[p]? = some (some (keO key))) (hk:key.length = 3)
  (hE:qH X E 39 (.map 2 0) (.agg (.pb key)) = some (.tup [v0,.int .i64 (k:Nat)],E1)) (hA:dV X E1 41 v0 (.ro 1 (.pi .i64 [(i:Int)]) 0) = some (v1,E2)) (hS:gJ E2 (.map 2 0) (.int .i64 (k:Nat)) v1 = some E3) :
  ∃ code,((Try.f23.body).bind (aS [1,0,1])) = some code∧Run X (evT X) 23 m code (Xn i p) E ⟨.normal,[],E3⟩:=by
 refine ⟨_,rfl,?_⟩
 simp only [bxN] at h4
 simp only [keO] at hp
 simp only [Xn]
 (refine ⟨0,?_⟩;simp (maxSteps:=2000000) -implicitDefEqProofs [-getElem?_pos,go_sem,eqV,aj,h4,hp,hk,hE,hA,hS,bsN])
theorem NtV.keep {H':AM.Heap} {o1 o4 om:Nat} (h:NtV c b t H o1 o4 om ex M) (k1:H'[o1]? = H[o1]?) (k4:H'[o4]? = H[o4]?) (km:H'[om]? = H[om]?) (kr:∀ x ∈ ex,H'[x.1]? = H[x.1]?):NtV c b t H' o1 o4 om ex M:=by
 obtain ⟨τ1,τ,a1,a2,h1⟩:=h.bx
 obtain ⟨τ2,b2,h2⟩:=h.mb
 obtain ⟨τ3,b3,h3⟩:=h.mp
 exact ⟨⟨τ1,τ,a1,a2,by rw [k1];exact h1⟩,⟨τ2,b2,by rw [k4];exact h2⟩,⟨τ3,b3,by rw [km];exact h3⟩,h.rows.keep kr,h.nd⟩
theorem NtV.lt {o1 o4 om:Nat} (h:NtV c b t H o1 o4 om ex M):o1 < H.length∧o4 < H.length∧om < H.length∧∀ x ∈ ex,x.1 < H.length:=by
 obtain ⟨τ1,τ,a1,a2,h1⟩:=h.bx
 obtain ⟨τ2,b2,h2⟩:=h.mb
 obtain ⟨τ3,b3,h3⟩:=h.mp
 exact ⟨iF h1,iF h2,iF h3,h.rows.lt⟩
theorem NtV.cat {o1 o4 om:Nat} (r:AM.Heap) (h:NtV c b t H o1 o4 om ex M):NtV c b t (H ++ r) o1 o4 om ex M:=by
 obtain ⟨l1,l2,l3,l4⟩:=h.lt
 exact h.keep (List.getElem?_append_left l1) (List.getElem?_append_left l2) (List.getElem?_append_left l3) fun x hx=>List.getElem?_append_left (l4 x hx)
theorem MO {M:Pls} {k:List UInt8} {i j:Nat} {l:List Nat} (h:qK k M 0 = some j) (hl:M[j]? = some (k,l)):ntM M k i = M.set j (k,l ++ [i]):=by
 unfold ntM
 rw [h]
 simp only
 rw [List.getD_eq_getElem?_getD,hl]
 rfl
theorem MP {M:Pls} {k:List UInt8} {i:Nat} (h:qK k M 0 = none):ntM M k i = M ++ [(k,[i])]:=by
 unfold ntM
 rw [h]
theorem fA.setAt {ps:List AV} {j o g τ:Nat} {p:AV} {ob:AM.Obj} {H':AM.Heap} (h:fA t H ex ps) (hn:(ex.map Prod.fst).Nodup) (hj:∃ g0,ex[j]? = some (o,g0)) (hk:∀ x ∈ ex,x.1 ≠ o→H'[x.1]? = H[x.1]?) (ho:H'[o]? = some (some ob)) (hτ:τ = 0∨τ = t) (hw:RwT p g τ ob):fA t H' (ex.set j (o,g)) (ps.set j p):=by
 obtain ⟨g0,hj⟩:=hj
 have hjl:=iF hj
 refine fA.of (by simpa using h.len) ?_
 intro k q hq
 by_cases hkj:j = k
 ·subst hkj
  rw [List.getElem?_set] at hq
  simp only [if_true] at hq
  split at hq
  ·cases hq
   exact ⟨o,g,τ,ob,by rw [List.getElem?_set_self hjl],hτ,ho,hw⟩
  ·cases hq
 ·rw [List.getElem?_set_ne hkj] at hq
  obtain ⟨o2,g2,τ2,ob2,h1,h2,h3,h4⟩:=h.at' k q hq
  refine ⟨o2,g2,τ2,ob2,by rw [List.getElem?_set_ne hkj];exact h1,h2,?_,h4⟩
  have hne:o2 ≠ o:=by
   intro e
   subst e
   have e1:=Img.qy h1
   have e2:=Img.qy hj
   obtain ⟨l1,e1⟩:=List.getElem?_eq_some_iff.1 e1
   obtain ⟨l2,e2⟩:=List.getElem?_eq_some_iff.1 e2
   exact hkj ((List.getElem_inj hn).1 (e2.trans e1.symm))
  rw [hk (o2,g2) (List.mem_of_getElem? h1) hne]
  exact h3
theorem fA.app:∀ {ex:List (Nat × Nat)} {ps:List AV} {o g τ:Nat} {p:AV} {ob:AM.Obj},fA t H ex ps→(τ = 0∨τ = t)→H[o]? = some (some ob)→RwT p g τ ob→fA t H (ex ++ [(o,g)]) (ps ++ [p])
 | [],[],_,_,τ,_,ob,_,hτ,ho,hw=>⟨⟨τ,ob,hτ,ho,hw⟩,trivial⟩
 | x :: r,q :: ps,_,_,_,_,_,h,hτ,ho,hw=>⟨h.1,fA.app h.2 hτ ho hw⟩
 | [],_ :: _,_,_,_,_,_,h,_,_,_=>h.elim
 | _ :: _,[],_,_,_,_,_,h,_,_,_=>h.elim
theorem SI {j o g0 g:Nat} (hj:ex[j]? = some (o,g0)):(ex.set j (o,g)).map Prod.fst = ex.map Prod.fst:=by
 refine List.ext_getElem? fun k=>?_
 rw [List.getElem?_map,List.getElem?_map]
 by_cases hkj:j = k
 ·subst hkj
  rw [List.getElem?_set_self (iF hj),hj];rfl
 ·rw [List.getElem?_set_ne hkj]
theorem Oj {m i:Nat} {E:AM.Heap} (h:NtV c b t E 0 1 2 ex M) (hi:i≤100000) (hb:b.length≤100000) (hk:∀ y ∈ M,y.1.length = 3∧y.2.length≤1000000):∃ code,Try.f23.body = some code ∧
  au (qQ fun fr E'=>∃ ex',NtV c b t E' 0 1 2 ex' (ntB b M i)∧(∀ (k:Nat) (x:Nat × Nat),ex[k]? = some x→∃ g,ex'[k]? = some (x.1,g))∧(∀ k x,ex.length≤k→ex'[k]? = some x→E.length≤x.1)) X (evT X) 23 m code [(0,.int .i64 (i:Nat)),(1,.ptr 0 0 0 0),(2,.ptr 1 0 0 0)] E:=by
 refine ⟨_,rfl,?_⟩
 apply au.seq (piece (Xk h hi hb) _ rfl)
 unfold ntB
 by_cases hl:i + 3≤b.length
 ·rw [decide_eq_true hl,if_pos hl]
  refine au.P8 (by simp [aK,aI]) ?_
  apply au.seq (piece (Xl h hl hb) _ rfl)
  obtain ⟨x,hx⟩:∃ x,b[i]? = some x:=⟨_,List.getElem?_eq_getElem (by omega)⟩
  obtain ⟨y,hy⟩:∃ x,b[i + 1]? = some x:=⟨_,List.getElem?_eq_getElem (by omega)⟩
  obtain ⟨z,hz⟩:∃ x,b[i + 2]? = some x:=⟨_,List.getElem?_eq_getElem (by omega)⟩
  have hkey:=key_eq hx hy hz
  have hkl:(jW b i).length = 3:=by rw [hkey];rfl
  have hfit:rX X 39 (.agg (.pb (jW b i))) = true:=by rw [hkey];exact Xm x y z
  generalize jW b i = key at *
  have hE0:=h.cat [some (keO key)]
  have hp0:(E ++ [some (keO key)])[E.length]? = some (some (keO key)):=by simp
  have hEl:(E ++ [some (keO key)]).length = E.length + 1:=by simp
  generalize E ++ [some (keO key)] = E0 at *
  obtain ⟨τ2,b2,h2⟩:=hE0.mb
  obtain ⟨τ3,b3,h3⟩:=hE0.mp
  have hlen:=hE0.len
  have hnd:=hE0.nd
  have hnd':(ex.map Prod.fst).Nodup:=by simp at hnd;exact hnd.2.2.2
  have hne2:∀ x ∈ ex,x.1 ≠ 2∧x.1 ≠ 0∧x.1 ≠ 1:=by
   intro x hx
   have hm:x.1 ∈ ex.map Prod.fst:=List.mem_map.2 ⟨x,hx,rfl⟩
   refine ⟨?_,?_,?_⟩ <;> (intro e;rw [e] at hm;simp at hnd hm;simp_all)
  have hlive:live E0 2 0 = some (pmO (ntE ex M) τ3):=by simp [live,h3,pmO]
  obtain ⟨l1,l2,l3,l4⟩:=hE0.lt
  cases hidx:qK key M 0 with
  | some j =>
   obtain ⟨⟨o,g⟩,l,f1,f2,f3⟩:=mW (ex:=ex) hlen (fun y hy=>by rw [(hk y hy).1,hkl]) hidx
   simp only [Nat.sub_zero] at f1 f2
   have hE1:qH X E0 39 (.map 2 0) (.agg (.pb key)) = some (.tup [.sl o 0 l.length g,.int .i64 (j:Nat)],E0):=by
    unfold qH
    rw [hfit]
    simp only [Bool.true_eq_false,if_false,hlive,pmO]
    rw [f3]
   obtain ⟨o',g',τ,ob,r1,r2,r3,r4⟩:=hE0.rows.at' j (gY l) (by rw [List.getElem?_map,f2];rfl)
   rw [f1] at r1
   obtain ⟨rfl,rfl⟩:o = o'∧g = g':=by simpa using r1
   obtain ⟨ob',w1,w2⟩:=SG (y:=i) r3 r4 (by have:=(hk _ (List.mem_of_getElem? f2)).2;simp only at this;omega)
   obtain ⟨q2,q0,q1⟩:=hne2 (o,g) (List.mem_of_getElem? f1)
   simp only at q2 q0 q1
   have hm3:(upd E0 o (some ob'))[2]? = some (some (pmO (ntE ex M) τ3)):=Bz h3 q2
   have KT:live (upd E0 o (some ob')) 2 0 = some (pmO (ntE ex M) τ3):=by simp [live,hm3,pmO]
   have hent:=Qg f1 f2
   have hS:gJ (upd E0 o (some ob')) (.map 2 0) (.int .i64 (j:Nat)) (.sl o 0 (l.length + 1) (g + 1)) = some (upd (upd E0 o (some ob')) 2 (some (pmO (ntE (ex.set j (o,g + 1)) (M.set j (key,l ++ [i]))) τ3))):=by
    unfold gJ
    simp only [mF,Bool.true_eq_false,if_false,KT,pmO]
    rw [if_pos (by omega),Int.toNat_natCast,hent]
    simp only
    rw [← MK (x:=(o,g + 1)) (y:=(key,l ++ [i])) hlen]
    simp
   refine au.of (o:=⟨.normal,[],_⟩) (piece (TI h2 hp0 hkl hE1 w2 hS) _ rfl) ⟨.inl rfl,ex.set j (o,g + 1),?_,?_,?_⟩
   ·rw [MO hidx f2]
    obtain ⟨τ1,τ0,a1,a2,h1⟩:=hE0.bx
    refine ⟨⟨τ1,τ0,a1,a2,Bz (Bz h1 q0) (by omega)⟩,⟨τ2,b2,Bz (Bz h2 q1) (by omega)⟩,⟨τ3,b3,setAt hm3⟩,?_,?_⟩
    ·rw [List.map_set]
     refine fA.setAt hE0.rows hnd' ⟨g,f1⟩ (fun x hx hxo=>?_) (Bz (setAt r3) (Ne.symm q2)) r2 w1
     unfold upd
     rw [List.getElem?_set_ne (Ne.symm (hne2 x hx).1),List.getElem?_set_ne (Ne.symm hxo)]
    ·rw [SI f1]
     exact hnd
   ·intro k x hx
    by_cases hjk:j = k
    ·subst hjk
     rw [f1] at hx
     cases hx
     exact ⟨g + 1,List.getElem?_set_self (iF f1)⟩
    ·exact ⟨x.2,by rw [List.getElem?_set_ne hjk];exact hx⟩
   ·intro k x h1 h2
    have:=iF h2
    rw [List.length_set] at this
    omega
  | none =>
   have f3:=lF (ex:=ex) hlen (fun y hy=>by rw [(hk y hy).1,hkl]) hidx
   have hE1:qH X E0 39 (.map 2 0) (.agg (.pb key)) = some (.tup [.ro 0 .pn 0,.int .i64 (M.length:Nat)],upd E0 2 (some (pmO (ntE ex M ++ [.pc [.agg (.pb key),.ro 0 .pn 0]]) τ3))):=by
    unfold qH
    rw [hfit]
    simp only [Bool.true_eq_false,if_false,hlive,pmO]
    rw [f3]
    simp only [TG,vZ hlen]
   have hA:=SH (upd E0 2 (some (pmO (ntE ex M ++ [.pc [.agg (.pb key),.ro 0 .pn 0]]) τ3))) i
   have hul:(upd E0 2 (some (pmO (ntE ex M ++ [.pc [.agg (.pb key),.ro 0 .pn 0]]) τ3))).length = E0.length:=by simp [upd]
   have hu2:(upd E0 2 (some (pmO (ntE ex M ++ [.pc [.agg (.pb key),.ro 0 .pn 0]]) τ3)))[2]? = some (some (pmO (ntE ex M ++ [.pc [.agg (.pb key),.ro 0 .pn 0]]) τ3)):=setAt h3
   rw [hul] at hA
   have hu:∀ j,j ≠ 2→(upd E0 2 (some (pmO (ntE ex M ++ [.pc [.agg (.pb key),.ro 0 .pn 0]]) τ3)))[j]? = E0[j]?:=fun j hj=>by unfold upd;rw [List.getElem?_set_ne (Ne.symm hj)]
   generalize upd E0 2 (some (pmO (ntE ex M ++ [.pc [.agg (.pb key),.ro 0 .pn 0]]) τ3)) = E1 at *
   have hm3:(E1 ++ [some (⟨gY [i],0,none,0,true,false,0⟩:AM.Obj)])[2]? = some (some (pmO (ntE ex M ++ [.pc [.agg (.pb key),.ro 0 .pn 0]]) τ3)):=by rw [List.getElem?_append_left (by omega)];exact hu2
   have KT:live (E1 ++ [some (⟨gY [i],0,none,0,true,false,0⟩:AM.Obj)]) 2 0 = some (pmO (ntE ex M ++ [.pc [.agg (.pb key),.ro 0 .pn 0]]) τ3):=by simp only [live,hm3,pmO,if_true]
   have hent:(ntE ex M ++ [AV.pc [.agg (.pb key),.ro 0 .pn 0]])[M.length]? = some (.pc [.agg (.pb key),.ro 0 .pn 0]):=by
    rw [List.getElem?_append_right (by rw [vZ hlen];omega),vZ hlen,Nat.sub_self];rfl
   have hset:(ntE ex M ++ [AV.pc [.agg (.pb key),.ro 0 .pn 0]]).set M.length (.pc [.agg (.pb key),.sl E0.length 0 1 0]) = ntE (ex ++ [(E0.length,0)]) (M ++ [(key,[i])]):=by
    rw [← ML (x:=(E0.length,0)) (y:=(key,[i])) hlen,List.set_append_right _ _ (by rw [vZ hlen];omega),vZ hlen,Nat.sub_self]
    rfl
   have hS:gJ (E1 ++ [some (⟨gY [i],0,none,0,true,false,0⟩:AM.Obj)]) (.map 2 0) (.int .i64 (M.length:Nat)) (.sl E0.length 0 1 0) = some (upd (E1 ++ [some (⟨gY [i],0,none,0,true,false,0⟩:AM.Obj)]) 2 (some (pmO (ntE (ex ++ [(E0.length,0)]) (M ++ [(key,[i])])) τ3))):=by
    unfold gJ
    simp only [mF,Bool.true_eq_false,if_false,KT,pmO]
    rw [if_pos (by omega),Int.toNat_natCast,hent]
    simp only
    rw [hset]
   refine au.of (o:=⟨.normal,[],_⟩) (piece (TI h2 hp0 hkl hE1 hA hS) _ rfl) ⟨.inl rfl,ex ++ [(E0.length,0)],?_,?_,?_⟩
   ·rw [MP hidx]
    obtain ⟨τ1,τ0,a1,a2,h1⟩:=hE0.bx
    have hold:∀ j,j ≠ 2→j < E0.length→(upd (E1 ++ [some (⟨gY [i],0,none,0,true,false,0⟩:AM.Obj)]) 2 (some (pmO (ntE (ex ++ [(E0.length,0)]) (M ++ [(key,[i])])) τ3)))[j]? = E0[j]?:=fun j hj hjl=>by
     unfold upd
     rw [List.getElem?_set_ne (Ne.symm hj),List.getElem?_append_left (by omega),hu j hj]
    have Xo:(upd (E1 ++ [some (⟨gY [i],0,none,0,true,false,0⟩:AM.Obj)]) 2 (some (pmO (ntE (ex ++ [(E0.length,0)]) (M ++ [(key,[i])])) τ3)))[E0.length]? = some (some ⟨gY [i],0,none,0,true,false,0⟩):=by
     unfold upd
     rw [List.getElem?_set_ne (by omega),List.getElem?_append_right (by omega),hul,Nat.sub_self]
     rfl
    refine ⟨⟨τ1,τ0,a1,a2,by rw [hold 0 (by omega) l1];exact h1⟩,⟨τ2,b2,by rw [hold 1 (by omega) l2];exact h2⟩,⟨τ3,b3,setAt hm3⟩,?_,?_⟩
    ·rw [List.map_append]
     refine fA.app (hE0.rows.keep fun x hx=>hold x.1 (hne2 x hx).1 (l4 x hx)) (τ:=0) (.inl rfl) (ob:=⟨gY [i],0,none,0,true,false,0⟩) Xo ⟨rfl,rfl,rfl,rfl,rfl⟩
    ·rw [List.map_append]
     simp only [List.map_cons,List.map_nil]
     rw [show (0 :: 1 :: 2 :: (ex.map Prod.fst ++ [E0.length])) = (0 :: 1 :: 2 :: ex.map Prod.fst) ++ [E0.length] by simp,List.nodup_append]
     refine ⟨hnd,by simp,?_⟩
     intro x hx y hy
     simp only [List.mem_singleton] at hy
     subst hy
     simp only [List.mem_cons] at hx
     rcases hx with rfl | rfl | rfl | hx
     ·omega
     ·omega
     ·omega
     ·obtain ⟨z,hz,rfl⟩:=List.mem_map.1 hx
      have:=l4 z hz
      omega
   ·intro k x hx
    exact ⟨x.2,by rw [List.getElem?_append_left (iF hx)];exact hx⟩
   ·intro k x h1 h2
    have hkk:=iF h2
    simp at hkk
    have:k = ex.length:=by omega
    subst this
    rw [List.getElem?_append_right (Nat.le_refl _),Nat.sub_self] at h2
    simp at h2
    rw [← h2]
    simp only
    omega
 ·rw [decide_eq_false hl,if_neg hl]
  refine au.of (o:=⟨.normal,[(0,.int .i64 (i:Nat)),(1,.ptr 0 0 0 0),(2,.ptr 1 0 0 0),(9,.bool false)],E⟩) (Run.cond (d:=false) (by simp [aK,aI]) ⟨0,rfl⟩) ⟨.inl rfl,ex,h,fun k x hx=>⟨x.2,hx⟩,fun k x h1 h2=>by have:=iF h2;omega⟩
end
end Go.Proofs.Yteblpjhkgdpchaa
namespace Go.Proofs.Yteblpjhkgdpchaa
open Go.AM
theorem SK (K:Nat):pi0 K = pid 0 K:=by
 unfold pi0 pid
 simp
section
variable {c:Nat} {b:List UInt8} {t:Nat} {H:AM.Heap} {o1 o4 om:Nat} {ex:List (Nat × Nat)} {M:Pls}
theorem jc (c:Nat) (b:List UInt8) (M:Pls):(ntS c b M).length = M.length + 3:=by simp [ntS]
theorem Va (c:Nat) (b:List UInt8) (M:Pls):pi0 (ntS c b M).length = (0,0) :: (1,0) :: (2,0) :: pid 3 M.length:=by
 rw [SK,jc,y7,y7,y7]
theorem y9 (d n:Nat):(pid d n).map Prod.fst = (List.range n).map (d + ·):=by simp [pid]
theorem Bo (c:Nat) (b:List UInt8) (M:Pls) {k:Nat} {y:List UInt8 × List Nat} (h:M[k]? = some y):(ntS c b M)[k + 3]? = some (rwF (gY y.2)):=by
 unfold ntS
 rw [List.getElem?_append_right (by simp)]
 simp [h]
theorem Ql (c:Nat) (b:List UInt8) (M:Pls):OkS (ntS c b M):=by
 intro k ob hk o ho
 rw [jc]
 match k,hk with
 | 0,hk=>cases hk;simp [bxN,ids,aT] at ho
 | 1,hk=>cases hk;simp [bxN,ids,aT] at ho;omega
 | 2,hk =>
  cases hk
  simp only [pmO,ids] at ho
  rw [y8 (qw 3 _),y9] at ho
  simp at ho
  omega
 | k + 3,hk =>
  have hl:k < M.length:=by
   have:=iF hk
   rw [jc] at this
   omega
  rw [Bo c b M (List.getElem?_eq_getElem hl)] at hk
  cases hk
  simp [rwF,gY,ids] at ho
theorem Dt {S:List AM.Obj}:∀ (l:List Nat) (n:Nat) (acc:List Nat),l.length≤n→(∀ x ∈ l,∃ ob,S[x]? = some ob∧ob.ids = false)→(acc ++ l).Nodup→reach (S.map some) n l acc = acc ++ l
 | [],n,acc,_,_,_=>by cases n <;> simp [reach]
 | x :: l,0,acc,h,_,_=>by simp at h
 | x :: l,n + 1,acc,h,hx,hnd=>by
  obtain ⟨ob,h1,h2⟩:=hx x (List.mem_cons_self ..)
  have hna:acc.contains x = false:=by
   rw [List.nodup_append] at hnd
   have:x ∉ acc:=fun hm=>hnd.2.2 x hm x (List.mem_cons_self ..) rfl
   simpa using this
  have hS:(S.map some)[x]? = some (some ob):=by rw [List.getElem?_map,h1];rfl
  simp only [reach]
  rw [hna,hS]
  simp only [h2,Bool.false_eq_true,if_false,List.nil_append]
  rw [Dt l n (acc ++ [x]) (by simp at h;omega) (fun y hy=>hx y (List.mem_cons_of_mem _ hy)) (by simpa using hnd)]
  simp
theorem Ol (c:Nat) (b:List UInt8) (M:Pls) (hM:M.length≤2000):reach ((ntS c b M).map some) aJ [0,1] [] = List.range (ntS c b M).length:=by
 have e0:((ntS c b M).map some)[0]? = some (some (bxN (.ro c (.pb b) 0) 0)):=rfl
 have e1:((ntS c b M).map some)[1]? = some (some (bxN (.map 2 0) 0)):=rfl
 have e2:((ntS c b M).map some)[2]? = some (some (pmO (ntE (pid 3 M.length) M) 0)):=rfl
 have hr:=Dt (S:=ntS c b M) ((pid 3 M.length).map Prod.fst) (aJ - 3) [0,1,2] (by rw [List.length_map,qw];show _≤99997;omega) (by
  intro x hx
  rw [y9] at hx
  obtain ⟨k,hk,rfl⟩:=List.mem_map.1 hx
  have hk:=List.mem_range.1 hk
  refine ⟨rwF (gY (M[k]).2),?_,?_⟩
  ·have:=Bo c b M (List.getElem?_eq_getElem hk)
   rwa [show 3 + k = k + 3 by omega]
  ·rfl) (by
  rw [y9]
  rw [List.nodup_append]
  refine ⟨by simp,?_,?_⟩
  ·rw [List.nodup_iff_pairwise_ne,List.pairwise_map]
   refine List.Pairwise.imp_of_mem ?_ (List.nodup_iff_pairwise_ne.1 List.nodup_range)
   intro x y _ _ h e
   omega
  ·intro x hx y hy e
   obtain ⟨k,_,rfl⟩:=List.mem_map.1 hy
   simp at hx
   omega)
 have aeb:List.range (M.length + 3) = [0,1,2] ++ (pid 3 M.length).map Prod.fst:=by
  rw [y9]
  rw [Nat.add_comm,List.range_add]
  rfl
 rw [jc,aeb,← hr]
 show reach _ (aJ - 3 + 1 + 1 + 1) _ _ = _
 generalize aJ - 3 = n
 rw [reach,e0]
 simp only [bxN,List.contains_nil,Bool.false_eq_true,if_false,ids,aT,if_true,List.nil_append]
 rw [reach,e1]
 simp only [bxN,ids,aT,if_true]
 rw [if_neg (by simp)]
 simp only [List.append_nil,List.cons_append,List.nil_append]
 rw [reach,e2]
 simp only [pmO,ids,if_true,y8 (qw 3 _)]
 rw [if_neg (by simp)]
 simp
theorem SL {i:Nat} (h:NtV c b t H o1 o4 om ex M) (hi:i≤100000) (hb:b.length≤100000) (hk:∀ y ∈ M,y.1.length = 3∧y.2.length≤1000000) (hM:M.length≤1500) :
  ∃ H' ex',evT X 23 [.int .i64 (i:Nat),.ptr o1 0 0 0,.ptr o4 0 0 0] H = some (.tup [],H')∧NtV c b t H' o1 o4 om ex' (ntB b M i)∧(∀ (k:Nat) (x:Nat × Nat),ex[k]? = some x→∃ g,ex'[k]? = some (x.1,g))∧(∀ k x,ex.length≤k→ex'[k]? = some x→H.length≤x.1)∧H.length≤H'.length ∧
   (∀ j,j < H.length→j ≠ o1→j ≠ o4→j ≠ om→j ∉ ex.map Prod.fst→H'[j]? = H[j]?):=by
 obtain ⟨code,hc⟩:∃ code,Try.f23.body = some code:=⟨_,rfl⟩
 have hI:=h.img
 have hMl:(ntB b M i).length≤M.length + 1∧M.length≤(ntB b M i).length:=by
  unfold ntB ntM
  split
  ·split <;> simp
  ·omega
 obtain ⟨π'',S',v0,H',τf,hE,hτf,hI',hok',hid,⟨hv0,hS'⟩,hlen,hfix,hnew,hrest⟩:=Ev1.img (C:=X) (T:=evT X) (f:=23) (H:=H) (n:=4) (xs:=[.int .i64 (i:Nat),.ptr o1 0 0 0,.ptr o4 0 0 0]) (ys:=[.int .i64 (i:Nat),.ptr 0 0 0 0,.ptr 1 0 0 0])
  (Q:=fun S' v0=>v0 = .tup []∧S' = ntS c b (ntB b M i)) (bJ X) Try.func23 hc hI (Ql c b M)
  (kE.flat rfl rfl (kE.ptr hI rfl (o:=o1) (k:=0) rfl (by rw [jc];omega) (kE.ptr hI rfl (o:=o4) (k:=1) rfl (by rw [jc];omega) kE.nil))) (by
   have:=Ol c b M (by omega)
   simpa [aT,ids] using this) rfl (by simp [dJ]) (by
   intro E hEl hEI
   obtain ⟨p1,p4,pm,ex0,hπ,hV⟩:=NtV.C9 hEI
   rw [Va] at hπ
   simp only [List.cons.injEq,Prod.mk.injEq,and_true] at hπ
   obtain ⟨rfl,rfl,rfl,rfl⟩:=hπ
   obtain ⟨wO,hc2,ht⟩:=Oj (m:=(ntS c b M).length) (i:=i) hV hi hb hk
   rw [hc] at hc2
   obtain rfl:=Option.some.inj hc2
   rw [WR]
   refine ht.mono fun out ho=>⟨ho.1,?_⟩
   obtain ⟨ex',q1,q2,q3⟩:=ho.2
   refine Leaves.plain (S':=ntS c b (ntB b M i)) (l:=[]) rfl rfl rfl rfl q1.img (Ql c b _) (by rw [jc,jc];omega) ?_ ?_ ?_ ⟨rfl,rfl⟩
   ·intro k hk
    rw [jc] at hk
    match k,hk with
    | 0,_=>exact ⟨0,rfl⟩
    | 1,_=>exact ⟨0,rfl⟩
    | 2,_=>exact ⟨0,rfl⟩
    | k + 3,hk =>
     obtain ⟨g,hg⟩:=q2 k (3 + k,0) (GK (by omega))
     exact ⟨g,by rw [List.getElem?_cons_succ,List.getElem?_cons_succ,List.getElem?_cons_succ,hg,Nat.add_comm]⟩
   ·intro k ob ob' h1 h2
    match k,h1,h2 with
    | 0,h1,h2=>cases h1;cases h2;rfl
    | 1,h1,h2=>cases h1;cases h2;rfl
    | 2,h1,h2=>cases h1;cases h2;rfl
    | k + 3,h1,h2 =>
     have l1:=iF h1
     have l2:=iF h2
     rw [jc] at l1 l2
     rw [Bo c b M (List.getElem?_eq_getElem (by omega))] at h1
     rw [Bo c b _ (List.getElem?_eq_getElem (by omega))] at h2
     cases h1
     cases h2
     rfl
   ·intro k hk1 hk2
    rw [jc] at hk1 hk2
    have hf:(List.range (ntS c b M).length).length + wtF [] 0 (ntS c b (ntB b M i))≤aJ:=by
     rw [List.length_range,jc]
     unfold ntS
     rw [LM,Hq]
     have h1:wtF [] 0 [bxN (.ro c (.pb b) 0) 0,bxN (.map 2 0) 0,pmO (ntE (pid 3 (ntB b M i).length) (ntB b M i)) 0] = 1 + (ntB b M i).length:=by
      simp [wtF,kids,bxN,pmO,ids,aT,y8 (qw 3 _),qw]
     rw [h1]
     show _≤100000
     omega
    refine Nl hf (x:=2) (ob:=pmO (ntE (pid 3 (ntB b M i).length) (ntB b M i)) 0) (BF hf (List.mem_range.2 (by rw [jc];omega)) (by rw [jc];omega)) rfl ?_ (by rw [jc];omega)
    simp only [kids,pmO,if_true,ids]
    rw [y8 (qw 3 _),y9]
    exact List.mem_map.2 ⟨k - 3,List.mem_range.2 (by omega),by omega⟩)
 subst hv0 hS'
 obtain ⟨p1,p4,pm,ex',hπ,hV⟩:=NtV.C9 hI'
 subst hπ
 have f0:=hfix 0 o1 0 rfl
 have f1:=hfix 1 o4 0 rfl
 have f2:=hfix 2 om 0 rfl
 simp at f0 f1 f2
 subst f0 f1 f2
 refine ⟨H',ex',eH (by simpa [ren,dN] using hE),hV,?_,?_,hlen,?_⟩
 ·intro k x hx
  obtain ⟨g,hg⟩:=hfix (k + 3) x.1 x.2 (by rw [List.getElem?_cons_succ,List.getElem?_cons_succ,List.getElem?_cons_succ];exact hx)
  exact ⟨g,by simpa using hg⟩
 ·intro k x hk hx
  exact hnew (k + 3) x.1 x.2 (by rw [jc,← h.len];omega) (by rw [List.getElem?_cons_succ,List.getElem?_cons_succ,List.getElem?_cons_succ];exact hx)
 ·intro j hj h1 h4 hm hx
  refine hrest j hj ?_
  intro k o g hk e
  subst e
  match k,hk with
  | 0,hk=>simp at hk;exact h1 hk.1.symm
  | 1,hk=>simp at hk;exact h4 hk.1.symm
  | 2,hk=>simp at hk;exact hm hk.1.symm
  | k + 3,hk =>
   rw [List.getElem?_cons_succ,List.getElem?_cons_succ,List.getElem?_cons_succ] at hk
   exact hx (List.mem_map.2 ⟨(j,g),List.mem_of_getElem? hk,rfl⟩)
end
end Go.Proofs.Yteblpjhkgdpchaa
namespace Go.Proofs.Yteblpjhkgdpchaa
open Go.AM
def tH (b:List UInt8) (p:Nat):List Nat→Nat × Nat→Nat × Nat
 | [],s=>s
 | x :: r,s=>if p - x≤32768∧s.1 < 258 then tH b p r (if s.1 < bP b x p 258 0 then (bP b x p 258 0,p - x) else s) else s
theorem pJ (b:List UInt8) (i k:Nat):∀ (f n:Nat),n≤258→bP b i k f n≤258∧n≤bP b i k f n
 | 0,n,h=>⟨h,Nat.le_refl _⟩
 | f + 1,n,h=>by
  unfold bP
  split
  ·rename_i hc
   have:=pJ b i k f (n + 1) (by omega)
   omega
  ·exact ⟨h,Nat.le_refl _⟩
def fnV:AV:=.fn 23 [.ptr 0 0 0 0,.ptr 4 0 0 0]
def pO (v:AV) (p:Nat):AM.Frame:=[(1,.ptr 0 0 0 0),(3,v),(4,.ptr 4 0 0 0),(5,fnV),(6,.int .i64 (p:Nat))]
def kZ (v:AV) (p n d o len g:Nat) (I:Int):AM.Frame:=[(1,.ptr 0 0 0 0),(3,v),(4,.ptr 4 0 0 0),(5,fnV),(6,.int .i64 (p:Nat)),(7,.int .i64 (n:Nat)),(8,.int .i64 (d:Nat)),(9,.sl o 0 len g),(10,.int .i64 I)]
section
variable {c:Nat} {b:List UInt8} {t:Nat} {H:AM.Heap} {ex:List (Nat × Nat)} {M:Pls}
theorem Vb {m p n d o g τ i:Nat} {l:List Nat} {v:AV} {ob:AM.Obj} {E:AM.Heap} (ho:E[o]? = some (some ob)) (hw:RwT (gY l) g τ ob) (hl:∀ x ∈ l,x < p) (hp:p≤100000) (hi:i≤l.length) (hll:l.length≤100000) :
  ∃ code,((Try.f10.body).bind (aS [1,1,1,1,0,1,0,0,1,0,1,0,1,0,1,1,0,0,0,0])) = some code∧Run X (evT X) 10 m code (kZ v p n d o l.length g ((i:Int) - 1)) E ⟨.normal,kZ v p n d o l.length g ((i:Int) - 1) ++ [(58,.bool (match l[i - 1]? with | some x=>decide (0 < i) && (decide (p - x≤32768) && decide (n < 258)) | none=>false))],E⟩:=by
 refine ⟨_,rfl,?_⟩
 have q1:=hw.p;have q2:=hw.g;have q4:=hw.ids;have q5:=hw.tg
 simp only [kZ,gY] at q1 ⊢
 by_cases h0:i = 0
 ·subst h0
  have e1:(((0:Nat):Int) - 1) = -1:=rfl
  have e2:¬ (0:Int)≤-1:=by omega
  have e3:(match l[0 - 1]? with | some x=>decide (0 < 0) && (decide (p - x≤32768) && decide (n < 258)) | none=>false) = false:=by
   cases l[0 - 1]? <;> rfl
  rw [e1,e3]
  generalize l.length = N at *
  (refine ⟨0,?_⟩;simp (maxSteps:=2000000) -implicitDefEqProofs [-getElem?_pos,go_sem,eqV,aj,e2])
 ·obtain ⟨j,rfl⟩:∃ j,i = j + 1:=⟨i - 1,by omega⟩
  have e1:(((j + 1:Nat):Int) - 1) = (j:Nat):=by omega
  have hjl:j < l.length:=by omega
  obtain ⟨x,hx⟩:∃ x,l[j]? = some x:=⟨_,List.getElem?_eq_getElem hjl⟩
  have hxp:=hl x (List.mem_of_getElem? hx)
  have hx':(l.map Int.ofNat)[j]? = some (x:Int):=by rw [List.getElem?_map,hx];rfl
  have Vd:(l.map Int.ofNat).length = l.length:=by simp
  rw [show j + 1 - 1 = j by omega,hx]
  simp only [Nat.zero_lt_succ,decide_true,Bool.true_and]
  rw [e1]
  have w1:IntKind.i64.wrap ((p:Int) - (x:Int)) = ((p - x:Nat):Int):=by rw [wrap_i64 (by omega) (by omega)];omega
  have hjI:(j:Int) < (l.length:Int):=by omega
  generalize l.map Int.ofNat = L at *
  generalize l.length = N at *
  by_cases h1:p - x≤32768
  ·have h1I:((p - x:Nat):Int)≤32768:=by omega
   rw [decide_eq_true h1]
   by_cases h2:n < 258
   ·have h2I:(n:Int) < 258:=by omega
    rw [decide_eq_true h2]
    generalize p - x = px at *
    (refine ⟨0,?_⟩;simp (maxSteps:=2000000) -implicitDefEqProofs [-getElem?_pos,go_sem,eqV,aj,retag,ho,q1,q2,q4,q5,hx',hjI,hjl,Vd,w1,h1,h1I,h2,h2I])
   ·have h2I:¬ (n:Int) < 258:=by omega
    rw [decide_eq_false h2]
    generalize p - x = px at *
    (refine ⟨0,?_⟩;simp (maxSteps:=2000000) -implicitDefEqProofs [-getElem?_pos,go_sem,eqV,aj,retag,ho,q1,q2,q4,q5,hx',hjI,hjl,Vd,w1,h1,h1I,h2,h2I])
  ·have h1I:¬ ((p - x:Nat):Int)≤32768:=by omega
   rw [decide_eq_false h1]
   generalize p - x = px at *
   (refine ⟨0,?_⟩;simp (maxSteps:=2000000) -implicitDefEqProofs [-getElem?_pos,go_sem,eqV,aj,retag,ho,q1,q2,q4,q5,hx',hjI,hjl,Vd,w1,h1,h1I])
theorem Qm {m p n d o g τ j x:Nat} {l:List Nat} {v:AV} {ob:AM.Obj} {E:AM.Heap} {o4 om:Nat} {D:Bool} (hN:NtV c b t E 0 o4 om ex M) (ho:E[o]? = some (some ob)) (hw:RwT (gY l) g τ ob) (hx:l[j]? = some x) (hxp:x < p) (hp:p≤100000) (hb:b.length≤100000) (hll:l.length≤100000) :
  ∃ code,((Try.f10.body).bind (aS [1,1,1,1,0,1,0,0,1,0,1,0,1,0,1,1,0,0,1,0,0,0])) = some code∧Run X (evT X) 10 m code (kZ v p n d o l.length g (j:Nat) ++ [(58,.bool D)]) E ⟨.normal,kZ v p n d o l.length g (j:Nat) ++ [(11,.int .i64 (bP b x p 258 0:Nat))],E⟩:=by
 refine ⟨_,rfl,?_⟩
 obtain ⟨τ1,τ2,_,_,h1⟩:=hN.bx
 simp only [bxN] at h1
 have q1:=hw.p;have q2:=hw.g;have q4:=hw.ids;have q5:=hw.tg
 simp only [kZ,gY] at q1 ⊢
 have hjl:j < l.length:=iF hx
 have hjI:(j:Int) < (l.length:Int):=by omega
 have hx':(l.map Int.ofNat)[j]? = some (x:Int):=by rw [List.getElem?_map,hx];rfl
 have hS:=RS (H:=E) (a:=.ro c (.pb b) τ1) rfl hxp hb hp
 generalize bP b x p 258 0 = y at *
 generalize l.map Int.ofNat = L at *
 generalize l.length = N at *
 (refine ⟨0,?_⟩;simp (maxSteps:=2000000) -implicitDefEqProofs [-getElem?_pos,go_sem,eqV,aj,retag,h1,ho,q1,q2,q4,q5,hx',hjI,hjl,hS,aC])
theorem Qn {m p n d o g τ j x:Nat} {l:List Nat} {v:AV} {ob:AM.Obj} {E:AM.Heap} {o4 om:Nat} (hN:NtV c b t E 0 o4 om ex M) (ho:E[o]? = some (some ob)) (hw:RwT (gY l) g τ ob) (hx:l[j]? = some x) (hxp:x < p) (hp:p≤100000) (hb:b.length≤100000) (hll:l.length≤100000) (hn:n≤258) (hd:d≤100000) :
  ∃ code,((Try.f10.body).bind (aS [1,1,1,1,0,1,0,0,1,0,1,0,1,0,1,1,0,0,1])) = some code∧Run X (evT X) 10 m code (kZ v p n d o l.length g (j:Nat) ++ [(58,.bool true)]) E ⟨.normal,kZ v p (if n < bP b x p 258 0 then (bP b x p 258 0,p - x) else (n,d)).1 (if n < bP b x p 258 0 then (bP b x p 258 0,p - x) else (n,d)).2 o l.length g ((j:Int) - 1),E⟩:=by
 refine ⟨_,rfl,?_⟩
 have q1:=hw.p;have q2:=hw.g;have q4:=hw.ids;have q5:=hw.tg
 have hjl:j < l.length:=iF hx
 have hjI:(j:Int) < (l.length:Int):=by omega
 have hx':(l.map Int.ofNat)[j]? = some (x:Int):=by rw [List.getElem?_map,hx];rfl
 have hsb:=(pJ b x p 258 0 (by omega)).1
 have w1:IntKind.i64.wrap ((p:Int) - (x:Int)) = ((p - x:Nat):Int):=by rw [wrap_i64 (by omega) (by omega)];omega
 have w2:IntKind.i64.wrap ((j:Int) - 1) = (j:Int) - 1:=by rw [wrap_i64 (by omega) (by omega)]
 by_cases hgt:n < bP b x p 258 0
 ·rw [if_pos hgt]
  have hgI:(n:Int) < (bP b x p 258 0:Nat):=by omega
  apply Run.seq (fr':=kZ v p (bP b x p 258 0) (p - x) o l.length g (j:Nat)) (H':=E)
  ·apply Run.block
   ·apply Run.seq (piece (Qm (D:=true) hN ho hw hx hxp hp hb hll) _ rfl)
    apply Run.seq (fr':=kZ v p n d o l.length g (j:Nat) ++ [(11,.int .i64 (bP b x p 258 0:Nat)),(70,.bool true)]) (H':=E)
    ·generalize bP b x p 258 0 = y at *
     generalize l.length = N at *
     simp only [kZ]
     (refine ⟨0,?_⟩;simp (maxSteps:=2000000) -implicitDefEqProofs [-getElem?_pos,go_sem,eqV,aj,hgI,hgt])
    refine Run.cond (d:=true) (by simp [kZ,aK,aI]) ?_
    simp only [gY] at q1
    generalize bP b x p 258 0 = y at *
    generalize l.map Int.ofNat = L at *
    generalize l.length = N at *
    generalize p - x = px at *
    simp only [kZ]
    (refine ⟨0,?_⟩;simp (maxSteps:=2000000) -implicitDefEqProofs [-getElem?_pos,go_sem,eqV,aj,retag,ho,q1,q2,q4,q5,hx',hjI,hjl,w1,aC])
   ·simp
  ·generalize bP b x p 258 0 = y at *
   generalize l.length = N at *
   simp only [kZ]
   (refine ⟨0,?_⟩;simp (maxSteps:=2000000) -implicitDefEqProofs [-getElem?_pos,go_sem,eqV,aj,w2,aC])
 ·rw [if_neg hgt]
  have hgI:¬ (n:Int) < (bP b x p 258 0:Nat):=by omega
  apply Run.seq (fr':=kZ v p n d o l.length g (j:Nat) ++ [(11,.int .i64 (bP b x p 258 0:Nat)),(70,.bool false)]) (H':=E)
  ·apply Run.block
   ·apply Run.seq (piece (Qm (D:=true) hN ho hw hx hxp hp hb hll) _ rfl)
    apply Run.seq (fr':=kZ v p n d o l.length g (j:Nat) ++ [(11,.int .i64 (bP b x p 258 0:Nat)),(70,.bool false)]) (H':=E)
    ·generalize bP b x p 258 0 = y at *
     generalize l.length = N at *
     simp only [kZ]
     (refine ⟨0,?_⟩;simp (maxSteps:=2000000) -implicitDefEqProofs [-getElem?_pos,go_sem,eqV,aj,hgI,hgt])
    refine Run.cond (d:=false) (by simp [kZ,aK,aI]) ⟨0,rfl⟩
   ·simp
  ·generalize bP b x p 258 0 = y at *
   generalize l.length = N at *
   simp only [kZ]
   (refine ⟨0,?_⟩;simp (maxSteps:=2000000) -implicitDefEqProofs [-getElem?_pos,go_sem,eqV,aj,w2,aC])
theorem SN {m p o g τ:Nat} {l:List Nat} {v:AV} {ob:AM.Obj} {E:AM.Heap} {o4 om:Nat} (hN:NtV c b t E 0 o4 om ex M) (ho:E[o]? = some (some ob)) (hw:RwT (gY l) g τ ob) (hl:∀ x ∈ l,x < p) (hp:p≤100000) (hb:b.length≤100000) (hll:l.length≤100000) :
  ∃ code,((Try.f10.body).bind (aS [1,1,1,1,0,1,0,0,1,0,1,0,1,0,1,1])) = some code∧au (Goes fun fr E'=>∃ I,fr = kZ v p (tH b p l.reverse (0,0)).1 (tH b p l.reverse (0,0)).2 o l.length g I ++ [(58,.bool false)]∧E' = E) X (evT X) 10 m code (kZ v p 0 0 o l.length g ((l.length:Int) - 1)) E:=by
 refine ⟨_,rfl,?_⟩
 apply au.block
 refine au.loop (σ:=Nat × (Nat × Nat)) (fun s=>s.1≤l.length∧s.2.1≤258∧s.2.2≤100000∧tH b p (l.take s.1).reverse s.2 = tH b p l.reverse (0,0)) (fun s=>kZ v p s.2.1 s.2.2 o l.length g ((s.1:Int) - 1)) (fun _=>E) (fun s=>s.1) ?_ (l.length,(0,0)) ⟨Nat.le_refl _,by simp,by simp,by rw [List.take_length]⟩
 rintro ⟨i,n,d⟩ ⟨hi,hn,hd,hs⟩
 simp only at hi hn hd hs ⊢
 have h10:=Vb (m:=m) (p:=p) (n:=n) (d:=d) (v:=v) ho hw hl hp hi hll
 by_cases h0:i = 0
 ·subst h0
  right
  have e3:(match l[0 - 1]? with | some x=>decide (0 < 0) && (decide (p - x≤32768) && decide (n < 258)) | none=>false) = false:=by
   cases l[0 - 1]? <;> rfl
  rw [e3] at h10
  refine ⟨⟨.exit 2,kZ v p n d o l.length g (((0:Nat):Int) - 1) ++ [(58,.bool false)],E⟩,⟨rfl,((0:Nat):Int) - 1,?_,rfl⟩,by simp,?_⟩
  ·rw [← hs]
   rfl
  ·refine Run.bH ?_ (by simp)
   apply Run.seq (piece h10 _ rfl)
   refine Run.cond (d:=false) (by simp [kZ,aK,aI]) ⟨0,rfl⟩
 ·obtain ⟨j,rfl⟩:∃ j,i = j + 1:=⟨i - 1,by omega⟩
  obtain ⟨x,hx⟩:∃ x,l[j]? = some x:=⟨_,List.getElem?_eq_getElem (by omega)⟩
  have hxp:=hl x (List.mem_of_getElem? hx)
  have ht:(l.take (j + 1)).reverse = x :: (l.take j).reverse:=by rw [List.take_add_one,hx];simp
  rw [ht] at hs
  simp only [tH] at hs
  have e1:(((j + 1:Nat):Int) - 1) = (j:Nat):=by omega
  rw [show j + 1 - 1 = j by omega,hx] at h10
  simp only [Nat.zero_lt_succ,decide_true,Bool.true_and] at h10
  rw [e1] at h10
  rw [e1]
  by_cases hgo:p - x≤32768∧n < 258
  ·rw [if_pos hgo] at hs
   rw [show (decide (p - x≤32768) && decide (n < 258)) = true by simpa using hgo] at h10
   left
   refine ⟨(j,if n < bP b x p 258 0 then (bP b x p 258 0,p - x) else (n,d)),⟨by omega,?_,?_,hs⟩,?_,by simp⟩
   ·have:=(pJ b x p 258 0 (by omega)).1
    simp only
    split
    ·exact this
    ·exact hn
   ·simp only
    split
    ·simp only;omega
    ·exact hd
   ·apply Run.seq (fr':=kZ v p n d o l.length g (j:Nat) ++ [(58,.bool true)]) (H':=E)
    ·apply Run.seq (piece h10 _ rfl)
     refine Run.cond (d:=true) (by simp [kZ,aK,aI]) ⟨0,rfl⟩
    ·exact piece (Qn hN ho hw hx hxp hp hb hll hn hd) _ rfl
  ·rw [if_neg hgo] at hs
   rw [show (decide (p - x≤32768) && decide (n < 258)) = false by simpa using hgo] at h10
   right
   refine ⟨⟨.exit 2,kZ v p n d o l.length g (j:Nat) ++ [(58,.bool false)],E⟩,⟨rfl,(j:Nat),by rw [← hs],rfl⟩,by simp,?_⟩
   refine Run.bH ?_ (by simp)
   apply Run.seq (piece h10 _ rfl)
   refine Run.cond (d:=false) (by simp [kZ,aK,aI]) ⟨0,rfl⟩
end
end Go.Proofs.Yteblpjhkgdpchaa
namespace Go.Proofs.Yteblpjhkgdpchaa
open Go.AM
def lkM (M:Pls) (k:List UInt8):List Nat:=match qK k M 0 with
 | some j=>(M.getD j ([],[])).2
 | none=>[]
def jE (b:List UInt8) (M:Pls) (p:Nat):Nat × Nat:=if p + 3≤b.length then tH b p (lkM M (jW b p)).reverse (0,0) else (0,0)
def jd (v:AV) (p n d:Nat):AM.Frame:=[(1,.ptr 0 0 0 0),(3,v),(4,.ptr 4 0 0 0),(5,fnV),(6,.int .i64 (p:Nat)),(7,.int .i64 (n:Nat)),(8,.int .i64 (d:Nat))]
section
variable {c:Nat} {b:List UInt8} {t:Nat} {H:AM.Heap} {ex:List (Nat × Nat)} {M:Pls}
theorem Ve {m p τ1 τ2 τ3 o g len:Nat} {v:AV} {E:AM.Heap} (h1:E[0]? = some (some (bxN (.ro c (.pb b) τ1) τ2))) (h4:E[4]? = some (some (bxN (.map 3 0) τ3))) (hp:p + 3≤b.length) (hb:b.length≤100000) (hL:kP X E 39 (.map 3 0) (.agg (.pb (jW b p))) false = some (.sl o 0 len g)) :
  ∃ code,((Try.f10.body).bind (aS [1,1,1,1,0,1,0,0,1,0,1,0,1,0,0])) = some code∧Run X (evT X) 10 m code (jd v p 0 0 ++ [(23,.bool true)]) E ⟨.normal,jd v p 0 0 ++ [(9,.sl o 0 len g)],E⟩:=by
 refine ⟨_,rfl,?_⟩
 simp only [bxN] at h1 h4
 obtain ⟨x,hx⟩:∃ x,b[p]? = some x:=⟨_,List.getElem?_eq_getElem (by omega)⟩
 obtain ⟨y,hy⟩:∃ x,b[p + 1]? = some x:=⟨_,List.getElem?_eq_getElem (by omega)⟩
 obtain ⟨z,hz⟩:∃ x,b[p + 2]? = some x:=⟨_,List.getElem?_eq_getElem (by omega)⟩
 rw [key_eq hx hy hz] at hL
 have w1:IntKind.i64.wrap ((p:Int) + 1) = ((p + 1:Nat):Int):=by rw [wrap_i64 (by omega) (by omega)];omega
 have w2:IntKind.i64.wrap ((p:Int) + 2) = ((p + 2:Nat):Int):=by rw [wrap_i64 (by omega) (by omega)];omega
 have l0:p < b.length:=by omega
 have l1:p + 1 < b.length:=by omega
 have l2:p + 2 < b.length:=by omega
 have l0I:(p:Int) < (b.length:Int):=by omega
 have l1I:((p + 1:Nat):Int) < (b.length:Int):=by omega
 have l2I:((p + 2:Nat):Int) < (b.length:Int):=by omega
 simp only [jd]
 generalize p + 1 = p1 at *
 generalize p + 2 = p2 at *
 (refine ⟨0,?_⟩;simp (maxSteps:=2000000) -implicitDefEqProofs [-getElem?_pos,go_sem,eqV,aj,h1,h4,hx,hy,hz,w1,w2,l0,l1,l2,l0I,l1I,l2I,Qk,hL,aC])
theorem emI:dB X 3 = .pi .i64 []:=by kernel_rfl
theorem Vf {m p τ1 τ2 τ3:Nat} {v:AV} {E:AM.Heap} (h1:E[0]? = some (some (bxN (.ro c (.pb b) τ1) τ2))) (h4:E[4]? = some (some (bxN (.map 3 0) τ3))) (hp:p + 3≤b.length) (hb:b.length≤100000) (hL:kP X E 39 (.map 3 0) (.agg (.pb (jW b p))) false = some (.ro 0 .pn 0)) :
  ∃ code,((Try.f10.body).bind (aS [1,1,1,1,0,1,0,0,1,0,1,0,1,0,0])) = some code∧Run X (evT X) 10 m code (jd v p 0 0 ++ [(23,.bool true)]) E ⟨.normal,jd v p 0 0 ++ [(9,.sl E.length 0 0 0)],E ++ [some (rwF (gY []))]⟩:=by
 refine ⟨_,rfl,?_⟩
 simp only [bxN] at h1 h4
 obtain ⟨x,hx⟩:∃ x,b[p]? = some x:=⟨_,List.getElem?_eq_getElem (by omega)⟩
 obtain ⟨y,hy⟩:∃ x,b[p + 1]? = some x:=⟨_,List.getElem?_eq_getElem (by omega)⟩
 obtain ⟨z,hz⟩:∃ x,b[p + 2]? = some x:=⟨_,List.getElem?_eq_getElem (by omega)⟩
 rw [key_eq hx hy hz] at hL
 have w1:IntKind.i64.wrap ((p:Int) + 1) = ((p + 1:Nat):Int):=by rw [wrap_i64 (by omega) (by omega)];omega
 have w2:IntKind.i64.wrap ((p:Int) + 2) = ((p + 2:Nat):Int):=by rw [wrap_i64 (by omega) (by omega)];omega
 have l0:p < b.length:=by omega
 have l1:p + 1 < b.length:=by omega
 have l2:p + 2 < b.length:=by omega
 have l0I:(p:Int) < (b.length:Int):=by omega
 have l1I:((p + 1:Nat):Int) < (b.length:Int):=by omega
 have l2I:((p + 2:Nat):Int) < (b.length:Int):=by omega
 simp only [jd,rwF,gY,List.map_nil]
 generalize p + 1 = p1 at *
 generalize p + 2 = p2 at *
 (refine ⟨0,?_⟩;simp (maxSteps:=2000000) -implicitDefEqProofs [-getElem?_pos,go_sem,eqV,aj,h1,h4,hx,hy,hz,w1,w2,l0,l1,l2,l0I,l1I,l2I,Qk,hL,aC,rowOf,emI])
theorem Xp {m p:Nat} {v:AV} {E:AM.Heap} (h:NtV c b t E 0 4 3 ex M) (hk:∀ y ∈ M,y.1.length = 3) (hp:p + 3≤b.length) (hb:b.length≤100000) :
  ∃ E' o g τ ob,E'[o]? = some (some ob)∧RwT (gY (lkM M (jW b p))) g τ ob∧(∃ r,E' = E ++ r)∧∃ code,((Try.f10.body).bind (aS [1,1,1,1,0,1,0,0,1,0,1,0,1,0,0])) = some code∧Run X (evT X) 10 m code (jd v p 0 0 ++ [(23,.bool true)]) E ⟨.normal,jd v p 0 0 ++ [(9,.sl o 0 (lkM M (jW b p)).length g)],E'⟩:=by
 obtain ⟨τ1,τ2,_,_,h1⟩:=h.bx
 obtain ⟨τ3,_,h4⟩:=h.mb
 obtain ⟨τ5,_,h3⟩:=h.mp
 have hlive:live E 3 0 = some (pmO (ntE ex M) τ5):=by simp [live,h3,pmO]
 obtain ⟨x,hx⟩:∃ x,b[p]? = some x:=⟨_,List.getElem?_eq_getElem (by omega)⟩
 obtain ⟨y,hy⟩:∃ x,b[p + 1]? = some x:=⟨_,List.getElem?_eq_getElem (by omega)⟩
 obtain ⟨z,hz⟩:∃ x,b[p + 2]? = some x:=⟨_,List.getElem?_eq_getElem (by omega)⟩
 have hkey:=key_eq hx hy hz
 have hkl:(jW b p).length = 3:=by rw [hkey];rfl
 have hfit:rX X 39 (.agg (.pb (jW b p))) = true:=by rw [hkey];exact Xm x y z
 unfold lkM
 cases hidx:qK (jW b p) M 0 with
 | some j =>
  obtain ⟨⟨o,g⟩,l,f1,f2,f3⟩:=mW (ex:=ex) h.len (fun y hy=>by rw [hk y hy,hkl]) hidx
  simp only [Nat.sub_zero] at f1 f2
  have hL:kP X E 39 (.map 3 0) (.agg (.pb (jW b p))) false = some (.sl o 0 l.length g):=by
   unfold kP
   rw [hfit]
   simp only [Bool.true_eq_false,if_false,hlive,pmO]
   rw [f3]
   rfl
  obtain ⟨o',g',τ,ob,r1,r2,r3,r4⟩:=h.rows.at' j (gY l) (by rw [List.getElem?_map,f2];rfl)
  rw [f1] at r1
  obtain ⟨rfl,rfl⟩:o = o'∧g = g':=by simpa using r1
  have hg:(M.getD j ([],[])).2 = l:=by rw [List.getD_eq_getElem?_getD,f2];rfl
  simp only [hg]
  exact ⟨E,o,g,τ,ob,r3,r4,⟨[],by simp⟩,Ve h1 h4 hp hb hL⟩
 | none =>
  have f3:=lF (ex:=ex) h.len (fun y hy=>by rw [hk y hy,hkl]) hidx
  have hL:kP X E 39 (.map 3 0) (.agg (.pb (jW b p))) false = some (.ro 0 .pn 0):=by
   unfold kP
   rw [hfit]
   simp only [Bool.true_eq_false,if_false,hlive,pmO]
   rw [f3]
   simp [TG]
  exact ⟨E ++ [some (rwF (gY []))],E.length,0,0,rwF (gY []),by simp,⟨rfl,rfl,rfl,rfl,rfl⟩,⟨_,rfl⟩,Vf h1 h4 hp hb hL⟩
theorem Xq {m p τ1 τ2:Nat} {v:AV} {E:AM.Heap} (h1:E[0]? = some (some (bxN (.ro c (.pb b) τ1) τ2))) (hp:p≤100000):∃ code,((Try.f10.body).bind (aS [1,1,1,1,0,1,0,0,1,0,1,0,0])) = some code∧Run X (evT X) 10 m code (jd v p 0 0) E ⟨.normal,jd v p 0 0 ++ [(23,.bool (decide (p + 3≤b.length)))],E⟩:=by
 refine ⟨_,rfl,?_⟩
 simp only [bxN] at h1
 simp only [jd]
 have w1:IntKind.i64.wrap ((p:Int) + 3) = ((p + 3:Nat):Int):=by rw [wrap_i64 (by omega) (by omega)];omega
 by_cases hl:p + 3≤b.length
 ·have hlI:((p + 3:Nat):Int)≤(b.length:Int):=by omega
  rw [decide_eq_true hl]
  generalize p + 3 = p3 at *
  (refine ⟨0,?_⟩;simp (maxSteps:=2000000) -implicitDefEqProofs [-getElem?_pos,go_sem,eqV,aj,h1,w1,hl,hlI])
 ·have hlI:¬ ((p + 3:Nat):Int)≤(b.length:Int):=by omega
  rw [decide_eq_false hl]
  generalize p + 3 = p3 at *
  (refine ⟨0,?_⟩;simp (maxSteps:=2000000) -implicitDefEqProofs [-getElem?_pos,go_sem,eqV,aj,h1,w1,hl,hlI])
theorem QW {m p:Nat} {v:AV} {E:AM.Heap} (h:NtV c b t E 0 4 3 ex M) (hk:∀ y ∈ M,y.1.length = 3∧y.2.length≤100000∧∀ x ∈ y.2,x < p) (hp:p≤100000) (hb:b.length≤100000) :
  ∃ code,((Try.f10.body).bind (aS [1,1,1,1,0,1,0,0,1,0,1,0])) = some code∧au (Goes fun fr E'=>bZ [1,3,4,5,6,7,8] fr = jd v p (jE b M p).1 (jE b M p).2∧∃ r,E' = E ++ r) X (evT X) 10 m code (jd v p 0 0) E:=by
 refine ⟨_,rfl,?_⟩
 obtain ⟨τ1,τ2,_,_,h1⟩:=h.bx
 apply au.seq (piece (Xq h1 hp) _ rfl)
 unfold jE
 by_cases hl:p + 3≤b.length
 ·rw [decide_eq_true hl,if_pos hl]
  refine au.P8 (by simp [jd,aK,aI]) ?_
  obtain ⟨E',o,g,τ,ob,k1,k2,⟨r,rfl⟩,hr⟩:=Xp (m:=m) (v:=v) h (fun y hy=>(hk y hy).1) hl hb
  apply au.seq (piece hr _ rfl)
  have hN:=h.cat r
  have hlk:(∀ x ∈ lkM M (jW b p),x < p)∧(lkM M (jW b p)).length≤100000:=by
   unfold lkM
   cases hidx:qK (jW b p) M 0 with
   | none=>simp
   | some j =>
    obtain ⟨_,l,hM⟩:=wo hidx
    rw [Nat.sub_zero] at hM
    have hg:M.getD j ([],[]) = (jW b p,l):=by rw [List.getD_eq_getElem?_getD,hM];rfl
    simp only [hg]
    have:=hk _ (List.mem_of_getElem? hM)
    exact ⟨this.2.2,this.2.1⟩
  generalize lkM M (jW b p) = l at *
  apply au.seq (fr':=kZ v p 0 0 o l.length g ((l.length:Int) - 1)) (H':=E ++ r)
  ·have hg:=k2.g
   have w1:IntKind.i64.wrap ((l.length:Int) - 1) = (l.length:Int) - 1:=by rw [wrap_i64 (by omega) (by omega)]
   generalize l.length = N at *
   simp only [kZ,jd]
   (refine ⟨0,?_⟩;simp (maxSteps:=2000000) -implicitDefEqProofs [-getElem?_pos,go_sem,eqV,aj,k1,hg,w1,aC])
  refine (piece (SN (m:=m) (v:=v) hN k1 k2 hlk.1 hp hb hlk.2) _ rfl).mono ?_
  rintro ⟨ex',fr,E'⟩ ⟨he,I,hfr,hE⟩
  simp only at he hfr hE
  subst hfr hE
  exact ⟨he,by simp [kZ,jd,bZ,aI],r,rfl⟩
 ·rw [decide_eq_false hl,if_neg hl]
  refine au.Xr (by simp [jd,aK,aI]) ?_
  exact au.of (o:=⟨.normal,jd v p 0 0 ++ [(23,.bool false)],E⟩) ⟨0,rfl⟩ ⟨rfl,by simp [jd,bZ,aI],[],by simp⟩
end
end Go.Proofs.Yteblpjhkgdpchaa
namespace Go.Proofs.Yteblpjhkgdpchaa
open Go.AM
structure Pc where
 len:Nat
 dist:Nat
 byte:UInt8
deriving DecidableEq
def pcR (x:Pc):AV:=.pc [.int .i64 (x.len:Nat),.int .i64 (x.dist:Nat),.int .u8 (x.byte.toNat:Nat)]
def pcO (x:Pc):AM.Obj:=⟨pcR x,0,some 3,1,false,true,0⟩
def jl (b:List UInt8) (M:Pls) (p:Nat):Pc:=if 3≤(jE b M p).1 then ⟨(jE b M p).1,(jE b M p).2,0⟩ else ⟨0,0,b.getD p 0⟩
theorem TJ (y:Int):qF X 25 [(2,.int .u8 y)] = some (.agg (.pc [.int .i64 0,.int .i64 0,.int .u8 y])):=by kernel_rfl
theorem TK (n d:Int):qF X 25 [(0,.int .i64 n),(1,.int .i64 d)] = some (.agg (.pc [.int .i64 n,.int .i64 d,.int .u8 0])):=by kernel_rfl
theorem OD (l:List AV):l9 X 25 l = some (.pc l):=by kernel_rfl
theorem Vg (H:AM.Heap) (n d y:Int):dL X H 22 1 [(0,.agg (.pc [.int .i64 n,.int .i64 d,.int .u8 y]))] = some (.ro 1 (.pr 3 [.pc [.int .i64 n,.int .i64 d,.int .u8 y]]) 0,H):=by kernel_rfl
section
variable {c:Nat} {b:List UInt8} {t:Nat} {H:AM.Heap} {ex:List (Nat × Nat)} {M:Pls}
def oz (v:AV) (p q:Nat):AM.Frame:=[(1,.ptr 0 0 0 0),(3,v),(4,.ptr 4 0 0 0),(5,fnV),(6,.int .i64 (p:Nat)),(12,.ptr q 0 0 0)]
def qN (v:AV) (p n i:Nat):AM.Frame:=[(1,.ptr 0 0 0 0),(3,v),(4,.ptr 4 0 0 0),(5,fnV),(6,.int .i64 (p:Nat)),(94,.int .i64 (n:Nat)),(95,.int .i64 (i:Nat))]
theorem TN {m p n d τ1 τ2:Nat} {y:UInt8} {v:AV} {fr:AM.Frame} {E:AM.Heap} (hf:bZ [1,3,4,5,6,7,8] fr = jd v p n d) (h1:E[0]? = some (some (bxN (.ro c (.pb b) τ1) τ2))) (hy:b[p]? = some y) (hb:b.length≤100000) :
  ∃ code,((Try.f10.body).bind (aS [1,1,1,1,0,1,0,0,1,0,1,1,0])) = some code∧Run X (evT X) 10 m code fr E ⟨.normal,jd v p n d ++ [(12,.ptr E.length 0 0 0)],E ++ [some (pcO ⟨0,0,y⟩)]⟩:=by
 refine ⟨_,rfl,?_⟩
 simp only [bxN] at h1
 have g1:aI fr 1 = .ptr 0 0 0 0:=by simpa [bZ,jd,aI] using congrArg (fun f=>aI f 1) hf
 have g3:aI fr 3 = v:=by simpa [bZ,jd,aI] using congrArg (fun f=>aI f 3) hf
 have g4:aI fr 4 = .ptr 4 0 0 0:=by simpa [bZ,jd,aI] using congrArg (fun f=>aI f 4) hf
 have g5:aI fr 5 = fnV:=by simpa [bZ,jd,aI] using congrArg (fun f=>aI f 5) hf
 have g6:aI fr 6 = .int .i64 (p:Nat):=by simpa [bZ,jd,aI] using congrArg (fun f=>aI f 6) hf
 have g7:aI fr 7 = .int .i64 (n:Nat):=by simpa [bZ,jd,aI] using congrArg (fun f=>aI f 7) hf
 have g8:aI fr 8 = .int .i64 (d:Nat):=by simpa [bZ,jd,aI] using congrArg (fun f=>aI f 8) hf
 have hp:=iF hy
 have hpI:(p:Int) < (b.length:Int):=by omega
 simp only [jd,pcO,pcR]
 (refine ⟨0,?_⟩;simp (maxSteps:=2000000) -implicitDefEqProofs [-getElem?_pos,go_sem,eqV,aj,g1,g3,g4,g5,g6,g7,g8,h1,hy,hp,hpI,TJ,Fp,A8,splice,jy,scalars,scalar])
theorem TP {m p n d q:Nat} {y:UInt8} {v:AV} {E:AM.Heap} (hq:E[q]? = some (some (pcO ⟨0,0,y⟩))):∃ code,((Try.f10.body).bind (aS [1,1,1,1,0,1,0,0,1,0,1,1,1,0])) = some code∧∃ fr',Run X (evT X) 10 m code (jd v p n d ++ [(12,.ptr q 0 0 0)]) E ⟨.normal,fr',if 3≤n then upd E q (some (pcO ⟨n,d,0⟩)) else E⟩∧bZ [1,3,4,5,6,12] fr' = oz v p q:=by
 refine ⟨_,rfl,?_⟩
 by_cases hn:3≤n
 ·rw [if_pos hn]
  refine ⟨oz v p q,?_,by simp [oz,bZ,aI]⟩
  have hnI:(3:Int)≤(n:Int):=by omega
  apply Run.seq (fr':=jd v p n d ++ [(12,.ptr q 0 0 0),(84,.bool true)]) (H':=E)
  ·simp only [jd]
   (refine ⟨0,?_⟩;simp (maxSteps:=2000000) -implicitDefEqProofs [-getElem?_pos,go_sem,eqV,aj,hnI,hn])
  refine Run.cond (d:=true) (by simp [jd,aK,aI]) ?_
  simp only [jd,oz,pcO,pcR] at hq ⊢
  (refine ⟨0,?_⟩;simp (maxSteps:=2000000) -implicitDefEqProofs [-getElem?_pos,go_sem,eqV,aj,hq,TK,splice,jy,scalars,scalar])
 ·rw [if_neg hn]
  refine ⟨jd v p n d ++ [(12,.ptr q 0 0 0),(84,.bool false)],?_,by simp [jd,oz,bZ,aI]⟩
  have hnI:¬ (3:Int)≤(n:Int):=by omega
  apply Run.seq (fr':=jd v p n d ++ [(12,.ptr q 0 0 0),(84,.bool false)]) (H':=E)
  ·simp only [jd]
   (refine ⟨0,?_⟩;simp (maxSteps:=2000000) -implicitDefEqProofs [-getElem?_pos,go_sem,eqV,aj,hnI,hn])
  exact Run.cond (d:=false) (by simp [jd,aK,aI]) ⟨0,rfl⟩
theorem TQ {m p q N g:Nat} {x:Pc} {v:AV} {fr:AM.Frame} {E E':AM.Heap} (hf:bZ [1,3,4,5,6,12] fr = oz v p q) (hq:E[q]? = some (some (pcO x))) (hA:dV X E 22 v (.ro 1 (.pr 3 [pcR x]) 0) = some (.sl 2 0 N g,E')) :
  ∃ code,((Try.f10.body).bind (aS [1,1,1,1,0,1,0,0,1,0,1,1,1,1,0])) = some code∧Run X (evT X) 10 m code fr E ⟨.normal,oz (.sl 2 0 N g) p q,E'⟩:=by
 refine ⟨_,rfl,?_⟩
 have g1:aI fr 1 = .ptr 0 0 0 0:=by simpa [bZ,oz,aI] using congrArg (fun f=>aI f 1) hf
 have g3:aI fr 3 = v:=by simpa [bZ,oz,aI] using congrArg (fun f=>aI f 3) hf
 have g4:aI fr 4 = .ptr 4 0 0 0:=by simpa [bZ,oz,aI] using congrArg (fun f=>aI f 4) hf
 have g5:aI fr 5 = fnV:=by simpa [bZ,oz,aI] using congrArg (fun f=>aI f 5) hf
 have g6:aI fr 6 = .int .i64 (p:Nat):=by simpa [bZ,oz,aI] using congrArg (fun f=>aI f 6) hf
 have g7:aI fr 12 = .ptr q 0 0 0:=by simpa [bZ,oz,aI] using congrArg (fun f=>aI f 12) hf
 simp only [oz,pcO,pcR] at hq hA ⊢
 (refine ⟨0,?_⟩;simp (maxSteps:=2000000) -implicitDefEqProofs [-getElem?_pos,go_sem,eqV,aj,g1,g3,g4,g5,g6,g7,hq,hA,Vg,OD,jI,retag,aC])
theorem TR {m p q:Nat} {x:Pc} {v:AV} {E:AM.Heap} (hq:E[q]? = some (some (pcO x))) :
  ∃ code,((Try.f10.body).bind (aS [1,1,1,1,0,1,0,0,1,0,1,1,1,1,1,0])) = some code∧Run X (evT X) 10 m code (oz v p q) E ⟨.normal,qN v p (max 1 x.len) 0,E⟩:=by
 refine ⟨_,rfl,?_⟩
 simp only [oz,qN,pcO,pcR] at hq ⊢
 by_cases h:1≤x.len
 ·rw [Nat.max_eq_right h]
  have hI:(1:Int)≤(x.len:Int):=by omega
  have hI2:max 1 (x.len:Int) = (x.len:Int):=by omega
  have hI3:¬ (x.len:Int) < 1:=by omega
  (refine ⟨0,?_⟩;simp (maxSteps:=2000000) -implicitDefEqProofs [-getElem?_pos,go_sem,eqV,aj,hq,h,hI,hI2,hI3,lN])
  intro hx
  omega
 ·have h0:x.len = 0:=by omega
  rw [h0] at hq ⊢
  (refine ⟨0,?_⟩;simp (maxSteps:=2000000) -implicitDefEqProofs [-getElem?_pos,go_sem,eqV,aj,hq,lN])
end
end Go.Proofs.Yteblpjhkgdpchaa
namespace Go.Proofs.Yteblpjhkgdpchaa
open Go.AM
def rG (b:List UInt8) (M:Pls) (p:Nat):Nat→Pls
 | 0=>M
 | k + 1=>ntB b (rG b M p k) (p + k)
def nU (b:List UInt8):Nat→Pls→Nat→List Pc
 | 0,_,_=>[]
 | f + 1,M,p=>if p < b.length then jl b M p :: nU b f (rG b M p (max 1 (jl b M p).len)) (p + max 1 (jl b M p).len) else []
def Bv (M:Pls) (p:Nat):Prop:=M.length≤p∧∀ y ∈ M,y.1.length = 3∧y.2.length≤p∧∀ x ∈ y.2,x < p
theorem Bv.nt {b:List UInt8} {M:Pls} {p:Nat} (h:Bv M p):Bv (ntB b M p) (p + 1):=by
 unfold ntB
 by_cases hl:p + 3≤b.length
 ·rw [if_pos hl]
  have hkl:(jW b p).length = 3:=by unfold jW;rw [List.length_take,List.length_drop];omega
  cases hidx:qK (jW b p) M 0 with
  | none =>
   rw [MP hidx]
   refine ⟨by simp;exact h.1,?_⟩
   intro y hy
   rcases List.mem_append.1 hy with hy | hy
   ·obtain ⟨a1,a2,a3⟩:=h.2 y hy
    exact ⟨a1,by omega,fun x hx=>by have:=a3 x hx;omega⟩
   ·rw [List.mem_singleton.1 hy]
    refine ⟨hkl,by simp,fun x hx=>?_⟩
    rw [List.mem_singleton.1 hx]
    omega
  | some j =>
   obtain ⟨_,l,hl2⟩:=wo hidx
   rw [Nat.sub_zero] at hl2
   rw [MO hidx hl2]
   refine ⟨by simp;have:=h.1;omega,?_⟩
   intro y hy
   rcases List.mem_or_eq_of_mem_set hy with hy | rfl
   ·obtain ⟨a1,a2,a3⟩:=h.2 y hy
    exact ⟨a1,by omega,fun x hx=>by have:=a3 x hx;omega⟩
   ·obtain ⟨a1,a2,a3⟩:=h.2 _ (List.mem_of_getElem? hl2)
    refine ⟨hkl,by simp;exact a2,fun x hx=>?_⟩
    rcases List.mem_append.1 hx with hx | hx
    ·have:=a3 x hx;omega
    ·rw [List.mem_singleton.1 hx];omega
 ·rw [if_neg hl]
  refine ⟨by have:=h.1;omega,fun y hy=>?_⟩
  obtain ⟨a1,a2,a3⟩:=h.2 y hy
  exact ⟨a1,by omega,fun x hx=>by have:=a3 x hx;omega⟩
theorem Bv.up {b:List UInt8} {M:Pls} {p:Nat} (h:Bv M p):∀ k,Bv (rG b M p k) (p + k)
 | 0=>h
 | k + 1=>by
  have:=(Bv.up (b:=b) h k).nt (b:=b)
  exact this
theorem wu (b:List UInt8) (i k:Nat):∀ (f n:Nat),k + n≤b.length→k + bP b i k f n≤b.length
 | 0,n,h=>h
 | f + 1,n,h=>by
  unfold bP
  split
  ·exact wu b i k f (n + 1) (by omega)
  ·exact h
theorem Jw (b:List UInt8) (p:Nat) (hp:p≤b.length):∀ (l:List Nat) (s:Nat × Nat),p + s.1≤b.length→s.1≤258→p + (tH b p l s).1≤b.length∧(tH b p l s).1≤258
 | [],s,h,h2=>⟨h,h2⟩
 | x :: r,s,h,h2=>by
  unfold tH
  split
  ·refine Jw b p hp r _ ?_ ?_
   ·split
    ·exact wu b x p 258 0 (by omega)
    ·exact h
   ·split
    ·exact (pJ b x p 258 0 (by omega)).1
    ·exact h2
  ·exact ⟨h,h2⟩
theorem Qo {b:List UInt8} {M:Pls} {p:Nat} (hp:p≤b.length):p + (jE b M p).1≤b.length∧(jE b M p).1≤258:=by
 unfold jE
 split
 ·exact Jw b p hp _ _ (by simpa using hp) (by simp)
 ·exact ⟨by simpa using hp,by simp⟩
theorem zi {b:List UInt8} {M:Pls} {p:Nat} (hp:p < b.length):p + max 1 (jl b M p).len≤b.length:=by
 have:=Qo (M:=M) (Nat.le_of_lt hp)
 unfold jl
 split <;> simp only <;> omega
section
variable {c:Nat} {b:List UInt8} {t:Nat} {H:AM.Heap} {ex:List (Nat × Nat)} {M:Pls}
structure PcV (c:Nat) (b:List UInt8) (t:Nat) (E:AM.Heap) (v:AV) (L:List Pc) (ex:List (Nat × Nat)) (M:Pls):Prop where
 nt:NtV c b t E 0 4 3 ex M
 row:∃ g ob,v = .sl 2 0 L.length g∧E[2]? = some (some ob)∧Rw (.pr 3 (L.map pcR)) g ob
 off:∀ x ∈ ex,x.1 ≠ 2
theorem Vh {m p n i:Nat} {v:AV} {E E':AM.Heap} (hp:p≤100000) (hi:i≤100000) (hE:evT X 23 [.int .i64 (p:Nat),.ptr 0 0 0 0,.ptr 4 0 0 0] E = some (.tup [],E')):∃ code,((Try.f10.body).bind (aS [1,1,1,1,0,1,0,0,1,0,1,1,1,1,1,1,0,0,1,1])) = some code∧Run X (evT X) 10 m code (qN v p n i ++ [(96,.bool true)]) E ⟨.normal,qN v (p + 1) n (i + 1),E'⟩:=by
 refine ⟨_,rfl,?_⟩
 have w1:IntKind.i64.wrap ((p:Int) + 1) = ((p + 1:Nat):Int):=by rw [wrap_i64 (by omega) (by omega)];omega
 have w2:IntKind.i64.wrap ((i:Int) + 1) = ((i + 1:Nat):Int):=by rw [wrap_i64 (by omega) (by omega)];omega
 apply Run.seq (fr':=qN v (p + 1) n i) (H':=E')
 ·apply Run.block
  ·apply Run.seq (fr':=qN v p n i) (H':=E')
   ·simp only [qN,fnV]
    (refine ⟨0,?_⟩;simp (maxSteps:=2000000) -implicitDefEqProofs [-getElem?_pos,go_sem,eqV,aj,hE])
   ·generalize p + 1 = p1 at *
    simp only [qN,fnV]
    (refine ⟨0,?_⟩;simp (maxSteps:=2000000) -implicitDefEqProofs [-getElem?_pos,go_sem,eqV,aj,w1,aC])
  ·simp
 ·generalize p + 1 = p1 at *
  generalize i + 1 = i1 at *
  simp only [qN,fnV]
  (refine ⟨0,?_⟩;simp (maxSteps:=2000000) -implicitDefEqProofs [-getElem?_pos,go_sem,eqV,aj,w2])
theorem PcV.note {p:Nat} {v:AV} {L:List Pc} {E:AM.Heap} (h:PcV c b t E v L ex M) (hM:Bv M p) (hp:p≤1400) (hb:b.length≤1400):∃ E' ex',evT X 23 [.int .i64 (p:Nat),.ptr 0 0 0 0,.ptr 4 0 0 0] E = some (.tup [],E')∧PcV c b t E' v L ex' (ntB b M p)∧E.length≤E'.length:=by
 obtain ⟨E',ex',h1,h2,h3,h4,h5,h6⟩:=SL (i:=p) h.nt (by omega) (by omega) (fun y hy=>⟨(hM.2 y hy).1,by have:=(hM.2 y hy).2.1;omega⟩) (by have:=hM.1;omega)
 obtain ⟨g,ob,rfl,ho,hw⟩:=h.row
 have hl:=iF ho
 refine ⟨E',ex',h1,⟨h2,⟨g,ob,rfl,?_,hw⟩,?_⟩,h5⟩
 ·rw [h6 2 hl (by omega) (by omega) (by omega) (fun hm=>by
   obtain ⟨x,hx,hx2⟩:=List.mem_map.1 hm
   exact h.off x hx hx2)]
  exact ho
 ·intro x hx
  obtain ⟨k,hk,rfl⟩:=List.mem_iff_getElem.1 hx
  by_cases hkl:k < ex.length
  ·obtain ⟨g2,hg2⟩:=h3 k _ (List.getElem?_eq_getElem hkl)
   rw [List.getElem?_eq_getElem hk] at hg2
   rw [Option.some.inj hg2]
   have:=h.off _ (List.getElem_mem hkl)
   exact this
  ·have:=h4 k _ (by omega) (List.getElem?_eq_getElem hk)
   omega
theorem QY {m p n:Nat} {v:AV} {L:List Pc} {E:AM.Heap} (h:PcV c b t E v L ex M) (hM:Bv M p) (hp:p + n≤b.length) (hb:b.length≤1400) :
  ∃ code,((Try.f10.body).bind (aS [1,1,1,1,0,1,0,0,1,0,1,1,1,1,1,1])) = some code∧au (Goes fun fr E'=>fr = qN v (p + n) n n ++ [(96,.bool false)]∧∃ ex',PcV c b t E' v L ex' (rG b M p n)) X (evT X) 10 m code (qN v p n 0) E:=by
 refine ⟨_,rfl,?_⟩
 apply au.block
 refine au.lJ (I:=fun q fr E'=>∃ i ex',i≤n∧q = n - i∧fr = qN v (p + i) n i∧PcV c b t E' v L ex' (rG b M p i)) ?_ (k:=n) ⟨0,ex,by omega,rfl,rfl,h⟩
 rintro q fr E' ⟨i,ex',hi,rfl,rfl,hV⟩
 by_cases hin:i = n
 ·subst hin
  refine au.of (o:=⟨.exit 4,qN v (p + i) i i ++ [(96,.bool false)],E'⟩) ?_ (.inr ⟨by simp,rfl,rfl,ex',hV⟩)
  generalize p + i = pi at *
  refine ⟨0,?_⟩
  simp only [qN]
  simp (maxSteps:=2000000) -implicitDefEqProofs [-getElem?_pos,go_sem,eqV,aj]
 ·have hlt:i < n:=by omega
  have jB:(i:Int) < (n:Int):=by omega
  obtain ⟨E2,ex2,h1,h2,h3⟩:=hV.note (hM.up i) (by omega) hb
  refine au.of (o:=⟨.normal,qN v (p + i + 1) n (i + 1),E2⟩) ?_ (.inl ⟨rfl,n - (i + 1),by omega,i + 1,ex2,by omega,rfl,rfl,h2⟩)
  apply Run.seq (fr':=qN v (p + i) n i ++ [(96,.bool true)]) (H':=E')
  ·generalize p + i = pi at *
   simp only [qN]
   (refine ⟨0,?_⟩;simp (maxSteps:=2000000) -implicitDefEqProofs [-getElem?_pos,go_sem,eqV,aj,jB,hlt])
  apply Run.seq (fr':=qN v (p + i) n i ++ [(96,.bool true)]) (H':=E')
  ·exact Run.cond (d:=true) (by simp [qN,aK,aI]) ⟨0,rfl⟩
  exact piece (Vh (by omega) (by omega) h1) _ rfl
end
end Go.Proofs.Yteblpjhkgdpchaa
