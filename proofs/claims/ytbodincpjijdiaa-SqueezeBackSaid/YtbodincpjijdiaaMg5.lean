/- DD to E5: texts of this claim, one behind the other; what each shows stands at its head. -/
import Derived.Test.YtbodincpjijdiaaAm4
import Derived.Test.YtbodincpjijdiaaMg4
set_option linter.unusedSimpArgs false
set_option linter.unusedVariables false
set_option maxRecDepth 100000
set_option maxHeartbeats 8000000
namespace Go.Proofs.Ytbodincpjijdiaa
open Go.AM
theorem bsN (H:AM.Heap) (x:Int):bT X H 36 1 [(0,.int .i64 x)] = some (.ro 1 (.pi .i64 [x]) 0,H):=by kernel_rfl
theorem af7 (x y z:UInt8):uO X 94 (.agg (.pb [x,y,z])) = true:=by kernel_rfl
theorem aaN:bg X (nX X 94) = .ro 0 .pn 0:=by kernel_rfl
theorem aad {H:AM.Heap} {o g t:Nat} {ob:AM.Obj} {l:List Nat} {y:Nat} (ho:H[o]? = some (some ob)) (h:RwT (ig l) g t ob) (hn:l.length≤10000000) :
  ∃ ob',RwT (ig (l ++ [y])) (g + 1) t ob'∧bH X H 36 (.sl o 0 l.length g) (.ro 1 (.pi .i64 [(y:Int)]) 0) = some (.sl o 0 (l.length + 1) (g + 1),upd H o (some ob')):=by
 have hlive:live H o g = some ob:=by simp [live,ho,h.g]
 have hroom:dX X 3 (l.length + 1) = true:=by simp [dX];omega
 have hj:dO t 0 = some t:=by
  unfold dO
  by_cases h0:t = 0
  ·rw [if_pos h0,h0]
  ·rw [if_neg h0,if_pos (.inl rfl)]
 have hsrc:iC H (.ro 1 (.pi .i64 [(y:Int)]) 0) = some (.pi .i64 [(y:Int)],0):=by simp [iC,jW,mO]
 have hp:ob.p = .pi .i64 (l.map Int.ofNat):=h.p
 refine ⟨{ ob with p:=ig (l ++ [y]),g:=g + 1,cap:=(match ob.cap with | some c=>if 0 + l.length + AM.ah (.pi .i64 [(y:Int)])≤c then some (c - 0) else none | none=>none),z:=(if AM.ah ob.p = 0 then ob.z else 1),tg:=t },⟨rfl,rfl,h.row,h.ids,rfl⟩,?_⟩
 unfold bH
 simp only [Hq,size3,RZ,hsrc,hlive,h.row,h.ids,hp,h.tg]
 simp only [show ¬ ((1:Nat) = 0∨true = false) by simp,if_false]
 have hc:True∧True∧0 + l.length = AM.ah (.pi .i64 (l.map Int.ofNat))∧aO (.pi .i64 (l.map Int.ofNat)) = 1∧dX X 3 (l.length + AM.ah (.pi .i64 [(y:Int)])) = true:=⟨trivial,trivial,by simp [AM.ah],rfl,by simpa [AM.ah] using hroom⟩
 rw [if_pos hc]
 have hs:gG (.pi .i64 (l.map Int.ofNat)) 0 l.length = some (.pi .i64 (l.map Int.ofNat)):=by
  simp [gG]
  exact auB (by simp)
 simp only [hs,nM,hj,aO]
 simp [AM.ah,ig]
 rfl
theorem aae (H:AM.Heap) (y:Nat):bH X H 36 (.ro 0 .pn 0) (.ro 1 (.pi .i64 [(y:Int)]) 0) = some (.sl H.length 0 1 0,H ++ [some ⟨ig [y],0,none,0,true,false,0⟩]):=by
 simp only [bH,Hq,size3,RZ]
 simp [iC,jW,ah,mO,dX,nM,bZ,aO,ig]
section
variable {c:Nat} {b:List UInt8} {t:Nat} {H:AM.Heap} {ex:List (Nat × Nat)} {M:Pls}
def af8 (i p:Nat):AM.Frame:=[(0,.int .i64 (i:Nat)),(2,.ptr 1 0 0 0),(4,.ptr p 0 0 0)]
theorem aaO {m i p k:Nat} {v0 v1:AV} {E E1 E2 E3:AM.Heap} {τ:Nat} {key:List UInt8} (h4:E[1]? = some (some (bxN (.map 2 0) τ))) (hp:E[p]? = some (some (keO key))) (hk:key.length = 3)
  (hE:tH X E 94 (.map 2 0) (.agg (.pb key)) = some (.tup [v0,.int .i64 (k:Nat)],E1)) (hA:bH X E1 36 v0 (.ro 1 (.pi .i64 [(i:Int)]) 0) = some (v1,E2)) (hS:gW E2 (.map 2 0) (.int .i64 (k:Nat)) v1 = some E3) :
  ∃ code,((Try.f59.body).bind (aB [1,0,1])) = some code∧Run X (evT X) 59 m code (af8 i p) E ⟨.normal,[],E3⟩:=by
 refine ⟨_,rfl,?_⟩
 simp only [bxN] at h4
 simp only [keO] at hp
 simp only [af8]
 (refine ⟨0,?_⟩;simp [-getElem?_pos,go_sem,eqV,ah,h4,hp,hk,hE,hA,hS,bsN])
theorem NtV.keep {H':AM.Heap} {o1 o4 om:Nat} (h:NtV c b t H o1 o4 om ex M) (k1:H'[o1]? = H[o1]?) (k4:H'[o4]? = H[o4]?) (km:H'[om]? = H[om]?) (kr:∀ x ∈ ex,H'[x.1]? = H[x.1]?):NtV c b t H' o1 o4 om ex M:=by
 obtain ⟨τ1,τ,a1,a2,h1⟩:=h.bx
 obtain ⟨τ2,b2,h2⟩:=h.mb
 obtain ⟨τ3,b3,h3⟩:=h.mp
 exact ⟨⟨τ1,τ,a1,a2,by rw [k1];exact h1⟩,⟨τ2,b2,by rw [k4];exact h2⟩,⟨τ3,b3,by rw [km];exact h3⟩,h.rows.keep kr,h.nd⟩
theorem NtV.lt {o1 o4 om:Nat} (h:NtV c b t H o1 o4 om ex M):o1 < H.length∧o4 < H.length∧om < H.length∧∀ x ∈ ex,x.1 < H.length:=by
 obtain ⟨τ1,τ,a1,a2,h1⟩:=h.bx
 obtain ⟨τ2,b2,h2⟩:=h.mb
 obtain ⟨τ3,b3,h3⟩:=h.mp
 exact ⟨dR h1,dR h2,dR h3,h.rows.lt⟩
theorem NtV.cat {o1 o4 om:Nat} (r:AM.Heap) (h:NtV c b t H o1 o4 om ex M):NtV c b t (H ++ r) o1 o4 om ex M:=by
 obtain ⟨l1,l2,l3,l4⟩:=h.lt
 exact h.keep (atE l1) (atE l2) (atE l3) fun x hx=>atE (l4 x hx)
theorem RH {M:Pls} {k:List UInt8} {i j:Nat} {l:List Nat} (h:yM k M 0 = some j) (hl:M[j]? = some (k,l)):ntM M k i = M.set j (k,l ++ [i]):=by
 unfold ntM
 rw [h]
 simp only
 rw [atH,hl]
 rfl
theorem RI {M:Pls} {k:List UInt8} {i:Nat} (h:yM k M 0 = none):ntM M k i = M ++ [(k,[i])]:=by
 unfold ntM
 rw [h]
theorem dU.setAt {ps:List AV} {j o g τ:Nat} {p:AV} {ob:AM.Obj} {H':AM.Heap} (h:dU t H ex ps) (hn:(ex.map Prod.fst).Nodup) (hj:∃ g0,ex[j]? = some (o,g0)) (hk:∀ x ∈ ex,x.1 ≠ o→H'[x.1]? = H[x.1]?) (ho:H'[o]? = some (some ob)) (hτ:τ = 0∨τ = t) (hw:RwT p g τ ob):dU t H' (ex.set j (o,g)) (ps.set j p):=by
 obtain ⟨g0,hj⟩:=hj
 have hjl:=dR hj
 refine dU.of (by simpa using h.len) ?_
 intro k q hq
 by_cases hkj:j = k
 ·subst hkj
  rw [avj] at hq
  simp only [if_true] at hq
  split at hq
  ·cases hq
   exact ⟨o,g,τ,ob,by rw [auF hjl],hτ,ho,hw⟩
  ·cases hq
 ·rw [atW hkj] at hq
  obtain ⟨o2,g2,τ2,ob2,h1,h2,h3,h4⟩:=h.at' k q hq
  refine ⟨o2,g2,τ2,ob2,by rw [atW hkj];exact h1,h2,?_,h4⟩
  have hne:o2 ≠ o:=by
   intro e
   subst e
   have e1:=Img.sZ h1
   have e2:=Img.sZ hj
   obtain ⟨l1,e1⟩:=atD.1 e1
   obtain ⟨l2,e2⟩:=atD.1 e2
   exact hkj ((avo hn).1 (e2.trans e1.symm))
  rw [hk (o2,g2) (atL h1) hne]
  exact h3
theorem dU.app:∀ {ex:List (Nat × Nat)} {ps:List AV} {o g τ:Nat} {p:AV} {ob:AM.Obj},dU t H ex ps→(τ = 0∨τ = t)→H[o]? = some (some ob)→RwT p g τ ob→dU t H (ex ++ [(o,g)]) (ps ++ [p])
 | [],[],_,_,τ,_,ob,_,hτ,ho,hw=>⟨⟨τ,ob,hτ,ho,hw⟩,trivial⟩
 | x :: r,q :: ps,_,_,_,_,_,h,hτ,ho,hw=>⟨h.1,dU.app h.2 hτ ho hw⟩
 | [],_ :: _,_,_,_,_,_,h,_,_,_=>h.elim
 | _ :: _,[],_,_,_,_,_,h,_,_,_=>h.elim
theorem aaf {j o g0 g:Nat} (hj:ex[j]? = some (o,g0)):(ex.set j (o,g)).map Prod.fst = ex.map Prod.fst:=by
 refine auK fun k=>?_
 rw [atI,atI]
 by_cases hkj:j = k
 ·subst hkj
  rw [auF (dR hj),hj];rfl
 ·rw [atW hkj]
theorem Uo {m i:Nat} {E:AM.Heap} (h:NtV c b t E 0 1 2 ex M) (hi:i≤100000) (hb:b.length≤100000) (hk:∀ y ∈ M,y.1.length = 3∧y.2.length≤1000000):∃ code,Try.f59.body = some code ∧
  aj (jG fun fr E'=>∃ ex',NtV c b t E' 0 1 2 ex' (ntB b M i)∧(∀ (k:Nat) (x:Nat × Nat),ex[k]? = some x→∃ g,ex'[k]? = some (x.1,g))∧(∀ k x,ex.length≤k→ex'[k]? = some x→E.length≤x.1)) X (evT X) 59 m code [(0,.int .i64 (i:Nat)),(1,.ptr 0 0 0 0),(2,.ptr 1 0 0 0)] E:=by
 refine ⟨_,rfl,?_⟩
 apply aj.seq (piece (adi h hi hb) _ rfl)
 unfold ntB
 by_cases hl:i + 3≤b.length
 ·rw [decide_eq_true hl,if_pos hl]
  refine aj.yu (by simp [aJ,ay]) ?_
  apply aj.seq (piece (adk h hl hb) _ rfl)
  obtain ⟨x,hx⟩:∃ x,b[i]? = some x:=⟨_,atB (by omega)⟩
  obtain ⟨y,hy⟩:∃ x,b[i + 1]? = some x:=⟨_,atB (by omega)⟩
  obtain ⟨z,hz⟩:∃ x,b[i + 2]? = some x:=⟨_,atB (by omega)⟩
  have hkey:=key_eq hx hy hz
  have hkl:(pK b i).length = 3:=by rw [hkey];rfl
  have hfit:uO X 94 (.agg (.pb (pK b i))) = true:=by rw [hkey];exact af7 x y z
  generalize pK b i = key at *
  have hE0:=h.cat [some (keO key)]
  have hp0:(E ++ [some (keO key)])[E.length]? = some (some (keO key)):=by simp
  have hEl:(E ++ [some (keO key)]).length = E.length + 1:=by simp
  generalize E ++ [some (keO key)] = E0 at *
  obtain ⟨τ2,b2,h2⟩:=hE0.mb
  obtain ⟨τ3,b3,h3⟩:=hE0.mp
  have hlen:=hE0.len
  have hnd:=hE0.nd
  have hnd':(ex.map Prod.fst).Nodup:=by simp at hnd;exact hnd.2.2.2
  have hne2:∀ x ∈ ex,x.1 ≠ 2∧x.1 ≠ 0∧x.1 ≠ 1:=by
   intro x hx
   have hm:x.1 ∈ ex.map Prod.fst:=aub.2 ⟨x,hx,rfl⟩
   refine ⟨?_,?_,?_⟩ <;> (intro e;rw [e] at hm;simp at hnd hm;simp_all)
  have hlive:live E0 2 0 = some (pmO (ntE ex M) τ3):=by simp [live,h3,pmO]
  obtain ⟨l1,l2,l3,l4⟩:=hE0.lt
  cases hidx:yM key M 0 with
  | some j =>
   obtain ⟨⟨o,g⟩,l,f1,f2,f3⟩:=oq (ex:=ex) hlen (fun y hy=>by rw [(hk y hy).1,hkl]) hidx
   simp only [avI] at f1 f2
   have hE1:tH X E0 94 (.map 2 0) (.agg (.pb key)) = some (.tup [.sl o 0 l.length g,.int .i64 (j:Nat)],E0):=by
    unfold tH
    rw [hfit]
    simp only [avu,if_false,hlive,pmO]
    rw [f3]
   obtain ⟨o',g',τ,ob,r1,r2,r3,r4⟩:=hE0.rows.at' j (ig l) (by rw [atI,f2];rfl)
   rw [f1] at r1
   obtain ⟨rfl,rfl⟩:o = o'∧g = g':=by simpa using r1
   obtain ⟨ob',w1,w2⟩:=aad (y:=i) r3 r4 (by have:=(hk _ (atL f2)).2;simp only at this;omega)
   obtain ⟨q2,q0,q1⟩:=hne2 (o,g) (atL f1)
   simp only at q2 q0 q1
   have hm3:(upd E0 o (some ob'))[2]? = some (some (pmO (ntE ex M) τ3)):=qO h3 q2
   have Qe:live (upd E0 o (some ob')) 2 0 = some (pmO (ntE ex M) τ3):=by simp [live,hm3,pmO]
   have hent:=UQ f1 f2
   have hS:gW (upd E0 o (some ob')) (.map 2 0) (.int .i64 (j:Nat)) (.sl o 0 (l.length + 1) (g + 1)) = some (upd (upd E0 o (some ob')) 2 (some (pmO (ntE (ex.set j (o,g + 1)) (M.set j (key,l ++ [i]))) τ3))):=by
    unfold gW
    simp only [nY,avu,if_false,Qe,pmO]
    rw [if_pos (by omega),auy,hent]
    simp only
    rw [← Ql (x:=(o,g + 1)) (y:=(key,l ++ [i])) hlen]
    simp
   refine aj.of (o:=⟨.normal,[],_⟩) (piece (aaO h2 hp0 hkl hE1 w2 hS) _ rfl) ⟨.inl rfl,ex.set j (o,g + 1),?_,?_,?_⟩
   ·rw [RH hidx f2]
    obtain ⟨τ1,τ0,a1,a2,h1⟩:=hE0.bx
    refine ⟨⟨τ1,τ0,a1,a2,qO (qO h1 q0) (by omega)⟩,⟨τ2,b2,qO (qO h2 q1) (by omega)⟩,⟨τ3,b3,setAt hm3⟩,?_,?_⟩
    ·rw [List.map_set]
     refine dU.setAt hE0.rows hnd' ⟨g,f1⟩ (fun x hx hxo=>?_) (qO (setAt r3) (auf q2)) r2 w1
     unfold upd
     rw [atW (auf (hne2 x hx).1),atW (auf hxo)]
    ·rw [aaf f1]
     exact hnd
   ·intro k x hx
    by_cases hjk:j = k
    ·subst hjk
     rw [f1] at hx
     cases hx
     exact ⟨g + 1,auF (dR f1)⟩
    ·exact ⟨x.2,by rw [atW hjk];exact hx⟩
   ·intro k x h1 h2
    have:=dR h2
    rw [av5] at this
    omega
  | none =>
   have f3:=lT (ex:=ex) hlen (fun y hy=>by rw [(hk y hy).1,hkl]) hidx
   have hE1:tH X E0 94 (.map 2 0) (.agg (.pb key)) = some (.tup [.ro 0 .pn 0,.int .i64 (M.length:Nat)],upd E0 2 (some (pmO (ntE ex M ++ [.pc [.agg (.pb key),.ro 0 .pn 0]]) τ3))):=by
    unfold tH
    rw [hfit]
    simp only [avu,if_false,hlive,pmO]
    rw [f3]
    simp only [aaN,xA hlen]
   have hA:=aae (upd E0 2 (some (pmO (ntE ex M ++ [.pc [.agg (.pb key),.ro 0 .pn 0]]) τ3))) i
   have hul:(upd E0 2 (some (pmO (ntE ex M ++ [.pc [.agg (.pb key),.ro 0 .pn 0]]) τ3))).length = E0.length:=by simp [upd]
   have hu2:(upd E0 2 (some (pmO (ntE ex M ++ [.pc [.agg (.pb key),.ro 0 .pn 0]]) τ3)))[2]? = some (some (pmO (ntE ex M ++ [.pc [.agg (.pb key),.ro 0 .pn 0]]) τ3)):=setAt h3
   rw [hul] at hA
   have hu:∀ j,j ≠ 2→(upd E0 2 (some (pmO (ntE ex M ++ [.pc [.agg (.pb key),.ro 0 .pn 0]]) τ3)))[j]? = E0[j]?:=fun j hj=>by unfold upd;rw [atW (auf hj)]
   generalize upd E0 2 (some (pmO (ntE ex M ++ [.pc [.agg (.pb key),.ro 0 .pn 0]]) τ3)) = E1 at *
   have hm3:(E1 ++ [some (⟨ig [i],0,none,0,true,false,0⟩:AM.Obj)])[2]? = some (some (pmO (ntE ex M ++ [.pc [.agg (.pb key),.ro 0 .pn 0]]) τ3)):=by rw [atE (by omega)];exact hu2
   have Qe:live (E1 ++ [some (⟨ig [i],0,none,0,true,false,0⟩:AM.Obj)]) 2 0 = some (pmO (ntE ex M ++ [.pc [.agg (.pb key),.ro 0 .pn 0]]) τ3):=by simp only [live,hm3,pmO,if_true]
   have hent:(ntE ex M ++ [AV.pc [.agg (.pb key),.ro 0 .pn 0]])[M.length]? = some (.pc [.agg (.pb key),.ro 0 .pn 0]):=by
    rw [atJ (by rw [xA hlen];omega),xA hlen,avK];rfl
   have hset:(ntE ex M ++ [AV.pc [.agg (.pb key),.ro 0 .pn 0]]).set M.length (.pc [.agg (.pb key),.sl E0.length 0 1 0]) = ntE (ex ++ [(E0.length,0)]) (M ++ [(key,[i])]):=by
    rw [← Qm (x:=(E0.length,0)) (y:=(key,[i])) hlen,List.set_append_right _ _ (by rw [xA hlen];omega),xA hlen,avK]
    rfl
   have hS:gW (E1 ++ [some (⟨ig [i],0,none,0,true,false,0⟩:AM.Obj)]) (.map 2 0) (.int .i64 (M.length:Nat)) (.sl E0.length 0 1 0) = some (upd (E1 ++ [some (⟨ig [i],0,none,0,true,false,0⟩:AM.Obj)]) 2 (some (pmO (ntE (ex ++ [(E0.length,0)]) (M ++ [(key,[i])])) τ3))):=by
    unfold gW
    simp only [nY,avu,if_false,Qe,pmO]
    rw [if_pos (by omega),auy,hent]
    simp only
    rw [hset]
   refine aj.of (o:=⟨.normal,[],_⟩) (piece (aaO h2 hp0 hkl hE1 hA hS) _ rfl) ⟨.inl rfl,ex ++ [(E0.length,0)],?_,?_,?_⟩
   ·rw [RI hidx]
    obtain ⟨τ1,τ0,a1,a2,h1⟩:=hE0.bx
    have hold:∀ j,j ≠ 2→j < E0.length→(upd (E1 ++ [some (⟨ig [i],0,none,0,true,false,0⟩:AM.Obj)]) 2 (some (pmO (ntE (ex ++ [(E0.length,0)]) (M ++ [(key,[i])])) τ3)))[j]? = E0[j]?:=fun j hj hjl=>by
     unfold upd
     rw [atW (auf hj),atE (by omega),hu j hj]
    have af9:(upd (E1 ++ [some (⟨ig [i],0,none,0,true,false,0⟩:AM.Obj)]) 2 (some (pmO (ntE (ex ++ [(E0.length,0)]) (M ++ [(key,[i])])) τ3)))[E0.length]? = some (some ⟨ig [i],0,none,0,true,false,0⟩):=by
     unfold upd
     rw [atW (by omega),atJ (by omega),hul,avK]
     rfl
    refine ⟨⟨τ1,τ0,a1,a2,by rw [hold 0 (by omega) l1];exact h1⟩,⟨τ2,b2,by rw [hold 1 (by omega) l2];exact h2⟩,⟨τ3,b3,setAt hm3⟩,?_,?_⟩
    ·rw [auA]
     refine dU.app (hE0.rows.keep fun x hx=>hold x.1 (hne2 x hx).1 (l4 x hx)) (τ:=0) (.inl rfl) (ob:=⟨ig [i],0,none,0,true,false,0⟩) af9 ⟨rfl,rfl,rfl,rfl,rfl⟩
    ·rw [auA]
     simp only [aua,auj]
     rw [show (0 :: 1 :: 2 :: (ex.map Prod.fst ++ [E0.length])) = (0 :: 1 :: 2 :: ex.map Prod.fst) ++ [E0.length] by simp,avA]
     refine ⟨hnd,by simp,?_⟩
     intro x hx y hy
     simp only [at7] at hy
     subst hy
     simp only [atX] at hx
     rcases hx with rfl | rfl | rfl | hx
     ·omega
     ·omega
     ·omega
     ·obtain ⟨z,hz,rfl⟩:=aub.1 hx
      have:=l4 z hz
      omega
   ·intro k x hx
    exact ⟨x.2,by rw [atE (dR hx)];exact hx⟩
   ·intro k x h1 h2
    have hkk:=dR h2
    simp at hkk
    have:k = ex.length:=by omega
    subst this
    rw [atJ (atG _),avK] at h2
    simp at h2
    rw [← h2]
    simp only
    omega
 ·rw [decide_eq_false hl,if_neg hl]
  refine aj.of (o:=⟨.normal,[(0,.int .i64 (i:Nat)),(1,.ptr 0 0 0 0),(2,.ptr 1 0 0 0),(9,.bool false)],E⟩) (Run.cond (d:=false) (by simp [aJ,ay]) ⟨0,rfl⟩) ⟨.inl rfl,ex,h,fun k x hx=>⟨x.2,hx⟩,fun k x h1 h2=>by have:=dR h2;omega⟩
end
theorem aag (K:Nat):pi0 K = pid 0 K:=by
 unfold pi0 pid
 simp
section
variable {c:Nat} {b:List UInt8} {t:Nat} {H:AM.Heap} {o1 o4 om:Nat} {ex:List (Nat × Nat)} {M:Pls}
theorem ji (c:Nat) (b:List UInt8) (M:Pls):(ntS c b M).length = M.length + 3:=by simp [ntS]
theorem acj (c:Nat) (b:List UInt8) (M:Pls):pi0 (ntS c b M).length = (0,0) :: (1,0) :: (2,0) :: pid 3 M.length:=by
 rw [aag,ji,zJ,zJ,zJ]
theorem A8 (d n:Nat):(pid d n).map Prod.fst = (List.range n).map (d + ·):=by simp [pid]
theorem Ep (c:Nat) (b:List UInt8) (M:Pls) {k:Nat} {y:List UInt8 × List Nat} (h:M[k]? = some y):(ntS c b M)[k + 3]? = some (rwF (ig y.2)):=by
 unfold ntS
 rw [atJ (by simp)]
 simp [h]
theorem Yg (c:Nat) (b:List UInt8) (M:Pls):OkS (ntS c b M):=by
 intro k ob hk o ho
 rw [ji]
 match k,hk with
 | 0,hk=>cases hk;simp [bxN,ids,aC] at ho
 | 1,hk=>cases hk;simp [bxN,ids,aC] at ho;omega
 | 2,hk =>
  cases hk
  simp only [pmO,ids] at ho
  rw [zK (rY 3 _),A8] at ho
  simp at ho
  omega
 | k + 3,hk =>
  have hl:k < M.length:=by
   have:=dR hk
   rw [ji] at this
   omega
  rw [Ep c b M (atB hl)] at hk
  cases hk
  simp [rwF,ig,ids] at ho
theorem Gy {S:List AM.Obj}:∀ (l:List Nat) (n:Nat) (acc:List Nat),l.length≤n→(∀ x ∈ l,∃ ob,S[x]? = some ob∧ob.ids = false)→(acc ++ l).Nodup→reach (S.map some) n l acc = acc ++ l
 | [],n,acc,_,_,_=>by cases n <;> simp [reach]
 | x :: l,0,acc,h,_,_=>by simp at h
 | x :: l,n + 1,acc,h,hx,hnd=>by
  obtain ⟨ob,h1,h2⟩:=hx x (auz ..)
  have hna:acc.contains x = false:=by
   rw [avA] at hnd
   have:x ∉ acc:=fun hm=>hnd.2.2 x hm x (auz ..) rfl
   simpa using this
  have hS:(S.map some)[x]? = some (some ob):=by rw [atI,h1];rfl
  simp only [reach]
  rw [hna,hS]
  simp only [h2,atO,if_false,at6]
  rw [Gy l n (acc ++ [x]) (by simp at h;omega) (fun y hy=>hx y (auc _ hy)) (by simpa using hnd)]
  simp
theorem Ur (c:Nat) (b:List UInt8) (M:Pls) (hM:M.length≤2000):reach ((ntS c b M).map some) aF [0,1] [] = List.range (ntS c b M).length:=by
 have e0:((ntS c b M).map some)[0]? = some (some (bxN (.ro c (.pb b) 0) 0)):=rfl
 have e1:((ntS c b M).map some)[1]? = some (some (bxN (.map 2 0) 0)):=rfl
 have e2:((ntS c b M).map some)[2]? = some (some (pmO (ntE (pid 3 M.length) M) 0)):=rfl
 have hr:=Gy (S:=ntS c b M) ((pid 3 M.length).map Prod.fst) (aF - 3) [0,1,2] (by rw [auJ,rY];show _≤99997;omega) (by
  intro x hx
  rw [A8] at hx
  obtain ⟨k,hk,rfl⟩:=aub.1 hx
  have hk:=aug.1 hk
  refine ⟨rwF (ig (M[k]).2),?_,?_⟩
  ·have:=Ep c b M (atB hk)
   rwa [show 3 + k = k + 3 by omega]
  ·rfl) (by
  rw [A8]
  rw [avA]
  refine ⟨by simp,?_,?_⟩
  ·rw [aur,avz]
   refine List.Pairwise.imp_of_mem ?_ (aur.1 av1)
   intro x y _ _ h e
   omega
  ·intro x hx y hy e
   obtain ⟨k,_,rfl⟩:=aub.1 hy
   simp at hx
   omega)
 have ao3:List.range (M.length + 3) = [0,1,2] ++ (pid 3 M.length).map Prod.fst:=by
  rw [A8]
  rw [avD,List.range_add]
  rfl
 rw [ji,ao3,← hr]
 show reach _ (aF - 3 + 1 + 1 + 1) _ _ = _
 generalize aF - 3 = n
 rw [reach,e0]
 simp only [bxN,List.contains_nil,atO,if_false,ids,aC,if_true,at6]
 rw [reach,e1]
 simp only [bxN,ids,aC,if_true]
 rw [if_neg (by simp)]
 simp only [at1,aum,at6]
 rw [reach,e2]
 simp only [pmO,ids,if_true,zK (rY 3 _)]
 rw [if_neg (by simp)]
 simp
theorem aah {i:Nat} (h:NtV c b t H o1 o4 om ex M) (hi:i≤100000) (hb:b.length≤100000) (hk:∀ y ∈ M,y.1.length = 3∧y.2.length≤1000000) (hM:M.length≤1500) :
  ∃ H' ex',evT X 59 [.int .i64 (i:Nat),.ptr o1 0 0 0,.ptr o4 0 0 0] H = some (.tup [],H')∧NtV c b t H' o1 o4 om ex' (ntB b M i)∧(∀ (k:Nat) (x:Nat × Nat),ex[k]? = some x→∃ g,ex'[k]? = some (x.1,g))∧(∀ k x,ex.length≤k→ex'[k]? = some x→H.length≤x.1)∧H.length≤H'.length ∧
   (∀ j,j < H.length→j ≠ o1→j ≠ o4→j ≠ om→j ∉ ex.map Prod.fst→H'[j]? = H[j]?):=by
 obtain ⟨code,hc⟩:∃ code,Try.f59.body = some code:=⟨_,rfl⟩
 have hI:=h.img
 have hMl:(ntB b M i).length≤M.length + 1∧M.length≤(ntB b M i).length:=by
  unfold ntB ntM
  split
  ·split <;> simp
  ·omega
 obtain ⟨π'',S',v0,H',τf,hE,hτf,hI',hok',hid,⟨hv0,hS'⟩,hlen,hfix,hnew,hrest⟩:=Ev1.img (C:=X) (T:=evT X) (f:=59) (H:=H) (n:=4) (xs:=[.int .i64 (i:Nat),.ptr o1 0 0 0,.ptr o4 0 0 0]) (ys:=[.int .i64 (i:Nat),.ptr 0 0 0 0,.ptr 1 0 0 0])
  (Q:=fun S' v0=>v0 = .tup []∧S' = ntS c b (ntB b M i)) (bJ X) Try.func59 hc hI (Yg c b M)
  (fF.flat rfl rfl (fF.ptr hI rfl (o:=o1) (k:=0) rfl (by rw [ji];omega) (fF.ptr hI rfl (o:=o4) (k:=1) rfl (by rw [ji];omega) fF.nil))) (by
   have:=Ur c b M (by omega)
   simpa [aC,ids] using this) rfl (by simp [dn]) (by
   intro E hEl hEI
   obtain ⟨p1,p4,pm,ex0,hπ,hV⟩:=NtV.mP hEI
   rw [acj] at hπ
   simp only [avb,atC,and_true] at hπ
   obtain ⟨rfl,rfl,rfl,rfl⟩:=hπ
   obtain ⟨nS,hc2,ht⟩:=Uo (m:=(ntS c b M).length) (i:=i) hV hi hb hk
   rw [hc] at hc2
   obtain rfl:=atK hc2
   rw [adM]
   refine ht.mono fun out ho=>⟨ho.1,?_⟩
   obtain ⟨ex',q1,q2,q3⟩:=ho.2
   refine Leaves.plain (S':=ntS c b (ntB b M i)) (l:=[]) rfl rfl rfl rfl q1.img (Yg c b _) (by rw [ji,ji];omega) ?_ ?_ ?_ ⟨rfl,rfl⟩
   ·intro k hk
    rw [ji] at hk
    match k,hk with
    | 0,_=>exact ⟨0,rfl⟩
    | 1,_=>exact ⟨0,rfl⟩
    | 2,_=>exact ⟨0,rfl⟩
    | k + 3,hk =>
     obtain ⟨g,hg⟩:=q2 k (3 + k,0) (Jh (by omega))
     exact ⟨g,by rw [atN,atN,atN,hg,avD]⟩
   ·intro k ob ob' h1 h2
    match k,h1,h2 with
    | 0,h1,h2=>cases h1;cases h2;rfl
    | 1,h1,h2=>cases h1;cases h2;rfl
    | 2,h1,h2=>cases h1;cases h2;rfl
    | k + 3,h1,h2 =>
     have l1:=dR h1
     have l2:=dR h2
     rw [ji] at l1 l2
     rw [Ep c b M (atB (by omega))] at h1
     rw [Ep c b _ (atB (by omega))] at h2
     cases h1
     cases h2
     rfl
   ·intro k hk1 hk2
    rw [ji] at hk1 hk2
    have hf:(List.range (ntS c b M).length).length + wtF [] 0 (ntS c b (ntB b M i))≤aF:=by
     rw [avT,ji]
     unfold ntS
     rw [D7,zH]
     have h1:wtF [] 0 [bxN (.ro c (.pb b) 0) 0,bxN (.map 2 0) 0,pmO (ntE (pid 3 (ntB b M i).length) (ntB b M i)) 0] = 1 + (ntB b M i).length:=by
      simp [wtF,kids,bxN,pmO,ids,aC,zK (rY 3 _),rY]
     rw [h1]
     show _≤100000
     omega
    refine Bh hf (x:=2) (ob:=pmO (ntE (pid 3 (ntB b M i).length) (ntB b M i)) 0) (og hf (aug.2 (by rw [ji];omega)) (by rw [ji];omega)) rfl ?_ (by rw [ji];omega)
    simp only [kids,pmO,if_true,ids]
    rw [zK (rY 3 _),A8]
    exact aub.2 ⟨k - 3,aug.2 (by omega),by omega⟩)
 subst hv0 hS'
 obtain ⟨p1,p4,pm,ex',hπ,hV⟩:=NtV.mP hI'
 subst hπ
 have f0:=hfix 0 o1 0 rfl
 have f1:=hfix 1 o4 0 rfl
 have f2:=hfix 2 om 0 rfl
 simp at f0 f1 f2
 subst f0 f1 f2
 refine ⟨H',ex',dQ (by simpa [ren,bU] using hE),hV,?_,?_,hlen,?_⟩
 ·intro k x hx
  obtain ⟨g,hg⟩:=hfix (k + 3) x.1 x.2 (by rw [atN,atN,atN];exact hx)
  exact ⟨g,by simpa using hg⟩
 ·intro k x hk hx
  exact hnew (k + 3) x.1 x.2 (by rw [ji,← h.len];omega) (by rw [atN,atN,atN];exact hx)
 ·intro j hj h1 h4 hm hx
  refine hrest j hj ?_
  intro k o g hk e
  subst e
  match k,hk with
  | 0,hk=>simp at hk;exact h1 hk.1.symm
  | 1,hk=>simp at hk;exact h4 hk.1.symm
  | 2,hk=>simp at hk;exact hm hk.1.symm
  | k + 3,hk =>
   rw [atN,atN,atN] at hk
   exact hx (aub.2 ⟨(j,g),atL hk,rfl⟩)
end
def ug (b:List UInt8) (p:Nat):List Nat→Nat × Nat→Nat × Nat
 | [],s=>s
 | x :: r,s=>if p - x≤32768∧s.1 < 258 then ug b p r (if s.1 < eX b x p 258 0 then (eX b x p 258 0,p - x) else s) else s
theorem Ba (b:List UInt8) (i k:Nat):∀ (f n:Nat),n≤258→eX b i k f n≤258∧n≤eX b i k f n
 | 0,n,h=>⟨h,atG _⟩
 | f + 1,n,h=>by
  unfold eX
  split
  ·rename_i hc
   have:=Ba b i k f (n + 1) (by omega)
   omega
  ·exact ⟨h,atG _⟩
def fnV:AV:=.fn 59 [.ptr 0 0 0 0,.ptr 4 0 0 0]
def rV (v:AV) (p:Nat):AM.Frame:=[(1,.ptr 0 0 0 0),(3,v),(4,.ptr 4 0 0 0),(5,fnV),(6,.int .i64 (p:Nat))]
def lQ (v:AV) (p n d o len g:Nat) (I:Int):AM.Frame:=[(1,.ptr 0 0 0 0),(3,v),(4,.ptr 4 0 0 0),(5,fnV),(6,.int .i64 (p:Nat)),(7,.int .i64 (n:Nat)),(8,.int .i64 (d:Nat)),(9,.sl o 0 len g),(10,.int .i64 I)]
section
variable {c:Nat} {b:List UInt8} {t:Nat} {H:AM.Heap} {ex:List (Nat × Nat)} {M:Pls}
theorem acn {m p n d o g τ i:Nat} {l:List Nat} {v:AV} {ob:AM.Obj} {E:AM.Heap} (ho:E[o]? = some (some ob)) (hw:RwT (ig l) g τ ob) (hl:∀ x ∈ l,x < p) (hp:p≤100000) (hi:i≤l.length) (hll:l.length≤100000) :
  ∃ code,((Try.f43.body).bind (aB [1,1,1,1,0,1,0,0,1,0,1,0,1,0,1,1,0,0,0,0])) = some code∧Run X (evT X) 43 m code (lQ v p n d o l.length g ((i:Int) - 1)) E ⟨.normal,lQ v p n d o l.length g ((i:Int) - 1) ++ [(58,.bool (match l[i - 1]? with | some x=>decide (0 < i) && (decide (p - x≤32768) && decide (n < 258)) | none=>false))],E⟩:=by
 refine ⟨_,rfl,?_⟩
 have q1:=hw.p;have q2:=hw.g;have q4:=hw.ids;have q5:=hw.tg
 simp only [lQ,ig] at q1 ⊢
 by_cases h0:i = 0
 ·subst h0
  have e1:(((0:Nat):Int) - 1) = -1:=rfl
  have e2:¬ (0:Int)≤-1:=by omega
  have e3:(match l[0 - 1]? with | some x=>decide (0 < 0) && (decide (p - x≤32768) && decide (n < 258)) | none=>false) = false:=by
   cases l[0 - 1]? <;> rfl
  rw [e1,e3]
  generalize l.length = N at *
  (refine ⟨0,?_⟩;simp [-getElem?_pos,go_sem,eqV,ah,e2])
 ·obtain ⟨j,rfl⟩:∃ j,i = j + 1:=⟨i - 1,by omega⟩
  have e1:(((j + 1:Nat):Int) - 1) = (j:Nat):=by omega
  have hjl:j < l.length:=by omega
  obtain ⟨x,hx⟩:∃ x,l[j]? = some x:=⟨_,atB hjl⟩
  have hxp:=hl x (atL hx)
  have hx':(l.map Int.ofNat)[j]? = some (x:Int):=by rw [atI,hx];rfl
  have aco:(l.map Int.ofNat).length = l.length:=by simp
  rw [show j + 1 - 1 = j by omega,hx]
  simp only [Nat.zero_lt_succ,decide_true,avf]
  rw [e1]
  have w1:IntKind.i64.wrap ((p:Int) - (x:Int)) = ((p - x:Nat):Int):=by rw [wrap_i64 (by omega) (by omega)];omega
  have hjI:(j:Int) < (l.length:Int):=by omega
  generalize l.map Int.ofNat = L at *
  generalize l.length = N at *
  by_cases h1:p - x≤32768
  ·have h1I:((p - x:Nat):Int)≤32768:=by omega
   rw [decide_eq_true h1]
   by_cases h2:n < 258
   ·have h2I:(n:Int) < 258:=by omega
    rw [decide_eq_true h2]
    generalize p - x = px at *
    (refine ⟨0,?_⟩;simp [-getElem?_pos,go_sem,eqV,ah,retag,ho,q1,q2,q4,q5,hx',hjI,hjl,aco,w1,h1,h1I,h2,h2I])
   ·have h2I:¬ (n:Int) < 258:=by omega
    rw [decide_eq_false h2]
    generalize p - x = px at *
    (refine ⟨0,?_⟩;simp [-getElem?_pos,go_sem,eqV,ah,retag,ho,q1,q2,q4,q5,hx',hjI,hjl,aco,w1,h1,h1I,h2,h2I])
  ·have h1I:¬ ((p - x:Nat):Int)≤32768:=by omega
   rw [decide_eq_false h1]
   generalize p - x = px at *
   (refine ⟨0,?_⟩;simp [-getElem?_pos,go_sem,eqV,ah,retag,ho,q1,q2,q4,q5,hx',hjI,hjl,aco,w1,h1,h1I])
theorem Yh {m p n d o g τ j x:Nat} {l:List Nat} {v:AV} {ob:AM.Obj} {E:AM.Heap} {o4 om:Nat} {D:Bool} (hN:NtV c b t E 0 o4 om ex M) (ho:E[o]? = some (some ob)) (hw:RwT (ig l) g τ ob) (hx:l[j]? = some x) (hxp:x < p) (hp:p≤100000) (hb:b.length≤100000) (hll:l.length≤100000) :
  ∃ code,((Try.f43.body).bind (aB [1,1,1,1,0,1,0,0,1,0,1,0,1,0,1,1,0,0,1,0,0,0])) = some code∧Run X (evT X) 43 m code (lQ v p n d o l.length g (j:Nat) ++ [(58,.bool D)]) E ⟨.normal,lQ v p n d o l.length g (j:Nat) ++ [(11,.int .i64 (eX b x p 258 0:Nat))],E⟩:=by
 refine ⟨_,rfl,?_⟩
 obtain ⟨τ1,τ2,_,_,h1⟩:=hN.bx
 simp only [bxN] at h1
 have q1:=hw.p;have q2:=hw.g;have q4:=hw.ids;have q5:=hw.tg
 simp only [lQ,ig] at q1 ⊢
 have hjl:j < l.length:=dR hx
 have hjI:(j:Int) < (l.length:Int):=by omega
 have hx':(l.map Int.ofNat)[j]? = some (x:Int):=by rw [atI,hx];rfl
 have hS:=YB (H:=E) (a:=.ro c (.pb b) τ1) rfl hxp hb hp
 generalize eX b x p 258 0 = y at *
 generalize l.map Int.ofNat = L at *
 generalize l.length = N at *
 (refine ⟨0,?_⟩;simp [-getElem?_pos,go_sem,eqV,ah,retag,h1,ho,q1,q2,q4,q5,hx',hjI,hjl,hS,ak])
theorem Yi {m p n d o g τ j x:Nat} {l:List Nat} {v:AV} {ob:AM.Obj} {E:AM.Heap} {o4 om:Nat} (hN:NtV c b t E 0 o4 om ex M) (ho:E[o]? = some (some ob)) (hw:RwT (ig l) g τ ob) (hx:l[j]? = some x) (hxp:x < p) (hp:p≤100000) (hb:b.length≤100000) (hll:l.length≤100000) (hn:n≤258) (hd:d≤100000) :
  ∃ code,((Try.f43.body).bind (aB [1,1,1,1,0,1,0,0,1,0,1,0,1,0,1,1,0,0,1])) = some code∧Run X (evT X) 43 m code (lQ v p n d o l.length g (j:Nat) ++ [(58,.bool true)]) E ⟨.normal,lQ v p (if n < eX b x p 258 0 then (eX b x p 258 0,p - x) else (n,d)).1 (if n < eX b x p 258 0 then (eX b x p 258 0,p - x) else (n,d)).2 o l.length g ((j:Int) - 1),E⟩:=by
 refine ⟨_,rfl,?_⟩
 have q1:=hw.p;have q2:=hw.g;have q4:=hw.ids;have q5:=hw.tg
 have hjl:j < l.length:=dR hx
 have hjI:(j:Int) < (l.length:Int):=by omega
 have hx':(l.map Int.ofNat)[j]? = some (x:Int):=by rw [atI,hx];rfl
 have hsb:=(Ba b x p 258 0 (by omega)).1
 have w1:IntKind.i64.wrap ((p:Int) - (x:Int)) = ((p - x:Nat):Int):=by rw [wrap_i64 (by omega) (by omega)];omega
 have w2:IntKind.i64.wrap ((j:Int) - 1) = (j:Int) - 1:=by rw [wrap_i64 (by omega) (by omega)]
 by_cases hgt:n < eX b x p 258 0
 ·rw [if_pos hgt]
  have hgI:(n:Int) < (eX b x p 258 0:Nat):=by omega
  apply Run.seq (fr':=lQ v p (eX b x p 258 0) (p - x) o l.length g (j:Nat)) (H':=E)
  ·apply Run.block
   ·apply Run.seq (piece (Yh (D:=true) hN ho hw hx hxp hp hb hll) _ rfl)
    apply Run.seq (fr':=lQ v p n d o l.length g (j:Nat) ++ [(11,.int .i64 (eX b x p 258 0:Nat)),(70,.bool true)]) (H':=E)
    ·generalize eX b x p 258 0 = y at *
     generalize l.length = N at *
     simp only [lQ]
     (refine ⟨0,?_⟩;simp [-getElem?_pos,go_sem,eqV,ah,hgI,hgt])
    refine Run.cond (d:=true) (by simp [lQ,aJ,ay]) ?_
    simp only [ig] at q1
    generalize eX b x p 258 0 = y at *
    generalize l.map Int.ofNat = L at *
    generalize l.length = N at *
    generalize p - x = px at *
    simp only [lQ]
    (refine ⟨0,?_⟩;simp [-getElem?_pos,go_sem,eqV,ah,retag,ho,q1,q2,q4,q5,hx',hjI,hjl,w1,ak])
   ·simp
  ·generalize eX b x p 258 0 = y at *
   generalize l.length = N at *
   simp only [lQ]
   (refine ⟨0,?_⟩;simp [-getElem?_pos,go_sem,eqV,ah,w2,ak])
 ·rw [if_neg hgt]
  have hgI:¬ (n:Int) < (eX b x p 258 0:Nat):=by omega
  apply Run.seq (fr':=lQ v p n d o l.length g (j:Nat) ++ [(11,.int .i64 (eX b x p 258 0:Nat)),(70,.bool false)]) (H':=E)
  ·apply Run.block
   ·apply Run.seq (piece (Yh (D:=true) hN ho hw hx hxp hp hb hll) _ rfl)
    apply Run.seq (fr':=lQ v p n d o l.length g (j:Nat) ++ [(11,.int .i64 (eX b x p 258 0:Nat)),(70,.bool false)]) (H':=E)
    ·generalize eX b x p 258 0 = y at *
     generalize l.length = N at *
     simp only [lQ]
     (refine ⟨0,?_⟩;simp [-getElem?_pos,go_sem,eqV,ah,hgI,hgt])
    refine Run.cond (d:=false) (by simp [lQ,aJ,ay]) ⟨0,rfl⟩
   ·simp
  ·generalize eX b x p 258 0 = y at *
   generalize l.length = N at *
   simp only [lQ]
   (refine ⟨0,?_⟩;simp [-getElem?_pos,go_sem,eqV,ah,w2,ak])
theorem aai {m p o g τ:Nat} {l:List Nat} {v:AV} {ob:AM.Obj} {E:AM.Heap} {o4 om:Nat} (hN:NtV c b t E 0 o4 om ex M) (ho:E[o]? = some (some ob)) (hw:RwT (ig l) g τ ob) (hl:∀ x ∈ l,x < p) (hp:p≤100000) (hb:b.length≤100000) (hll:l.length≤100000) :
  ∃ code,((Try.f43.body).bind (aB [1,1,1,1,0,1,0,0,1,0,1,0,1,0,1,1])) = some code∧aj (Goes fun fr E'=>∃ I,fr = lQ v p (ug b p l.reverse (0,0)).1 (ug b p l.reverse (0,0)).2 o l.length g I ++ [(58,.bool false)]∧E' = E) X (evT X) 43 m code (lQ v p 0 0 o l.length g ((l.length:Int) - 1)) E:=by
 refine ⟨_,rfl,?_⟩
 apply aj.block
 refine aj.loop (σ:=Nat × (Nat × Nat)) (fun s=>s.1≤l.length∧s.2.1≤258∧s.2.2≤100000∧ug b p (l.take s.1).reverse s.2 = ug b p l.reverse (0,0)) (fun s=>lQ v p s.2.1 s.2.2 o l.length g ((s.1:Int) - 1)) (fun _=>E) (fun s=>s.1) ?_ (l.length,(0,0)) ⟨atG _,by simp,by simp,by rw [auU]⟩
 rintro ⟨i,n,d⟩ ⟨hi,hn,hd,hs⟩
 simp only at hi hn hd hs ⊢
 have h10:=acn (m:=m) (p:=p) (n:=n) (d:=d) (v:=v) ho hw hl hp hi hll
 by_cases h0:i = 0
 ·subst h0
  right
  have e3:(match l[0 - 1]? with | some x=>decide (0 < 0) && (decide (p - x≤32768) && decide (n < 258)) | none=>false) = false:=by
   cases l[0 - 1]? <;> rfl
  rw [e3] at h10
  refine ⟨⟨.exit 2,lQ v p n d o l.length g (((0:Nat):Int) - 1) ++ [(58,.bool false)],E⟩,⟨rfl,((0:Nat):Int) - 1,?_,rfl⟩,by simp,?_⟩
  ·rw [← hs]
   rfl
  ·refine Run.bI ?_ (by simp)
   apply Run.seq (piece h10 _ rfl)
   refine Run.cond (d:=false) (by simp [lQ,aJ,ay]) ⟨0,rfl⟩
 ·obtain ⟨j,rfl⟩:∃ j,i = j + 1:=⟨i - 1,by omega⟩
  obtain ⟨x,hx⟩:∃ x,l[j]? = some x:=⟨_,atB (by omega)⟩
  have hxp:=hl x (atL hx)
  have ht:(l.take (j + 1)).reverse = x :: (l.take j).reverse:=by rw [avU,hx];simp
  rw [ht] at hs
  simp only [ug] at hs
  have e1:(((j + 1:Nat):Int) - 1) = (j:Nat):=by omega
  rw [show j + 1 - 1 = j by omega,hx] at h10
  simp only [Nat.zero_lt_succ,decide_true,avf] at h10
  rw [e1] at h10
  rw [e1]
  by_cases hgo:p - x≤32768∧n < 258
  ·rw [if_pos hgo] at hs
   rw [show (decide (p - x≤32768) && decide (n < 258)) = true by simpa using hgo] at h10
   left
   refine ⟨(j,if n < eX b x p 258 0 then (eX b x p 258 0,p - x) else (n,d)),⟨by omega,?_,?_,hs⟩,?_,by simp⟩
   ·have:=(Ba b x p 258 0 (by omega)).1
    simp only
    split
    ·exact this
    ·exact hn
   ·simp only
    split
    ·simp only;omega
    ·exact hd
   ·apply Run.seq (fr':=lQ v p n d o l.length g (j:Nat) ++ [(58,.bool true)]) (H':=E)
    ·apply Run.seq (piece h10 _ rfl)
     refine Run.cond (d:=true) (by simp [lQ,aJ,ay]) ⟨0,rfl⟩
    ·exact piece (Yi hN ho hw hx hxp hp hb hll hn hd) _ rfl
  ·rw [if_neg hgo] at hs
   rw [show (decide (p - x≤32768) && decide (n < 258)) = false by simpa using hgo] at h10
   right
   refine ⟨⟨.exit 2,lQ v p n d o l.length g (j:Nat) ++ [(58,.bool false)],E⟩,⟨rfl,(j:Nat),by rw [← hs],rfl⟩,by simp,?_⟩
   refine Run.bI ?_ (by simp)
   apply Run.seq (piece h10 _ rfl)
   refine Run.cond (d:=false) (by simp [lQ,aJ,ay]) ⟨0,rfl⟩
end
def lkM (M:Pls) (k:List UInt8):List Nat:=match yM k M 0 with
 | some j=>(M.getD j ([],[])).2
 | none=>[]
def lU (b:List UInt8) (M:Pls) (p:Nat):Nat × Nat:=if p + 3≤b.length then ug b p (lkM M (pK b p)).reverse (0,0) else (0,0)
def jw (v:AV) (p n d:Nat):AM.Frame:=[(1,.ptr 0 0 0 0),(3,v),(4,.ptr 4 0 0 0),(5,fnV),(6,.int .i64 (p:Nat)),(7,.int .i64 (n:Nat)),(8,.int .i64 (d:Nat))]
section
variable {c:Nat} {b:List UInt8} {t:Nat} {H:AM.Heap} {ex:List (Nat × Nat)} {M:Pls}
theorem acp {m p τ1 τ2 τ3 o g len:Nat} {v:AV} {E:AM.Heap} (h1:E[0]? = some (some (bxN (.ro c (.pb b) τ1) τ2))) (h4:E[4]? = some (some (bxN (.map 3 0) τ3))) (hp:p + 3≤b.length) (hb:b.length≤100000) (hL:lC X E 94 (.map 3 0) (.agg (.pb (pK b p))) false = some (.sl o 0 len g)) :
  ∃ code,((Try.f43.body).bind (aB [1,1,1,1,0,1,0,0,1,0,1,0,1,0,0])) = some code∧Run X (evT X) 43 m code (jw v p 0 0 ++ [(23,.bool true)]) E ⟨.normal,jw v p 0 0 ++ [(9,.sl o 0 len g)],E⟩:=by
 refine ⟨_,rfl,?_⟩
 simp only [bxN] at h1 h4
 obtain ⟨x,hx⟩:∃ x,b[p]? = some x:=⟨_,atB (by omega)⟩
 obtain ⟨y,hy⟩:∃ x,b[p + 1]? = some x:=⟨_,atB (by omega)⟩
 obtain ⟨z,hz⟩:∃ x,b[p + 2]? = some x:=⟨_,atB (by omega)⟩
 rw [key_eq hx hy hz] at hL
 have w1:IntKind.i64.wrap ((p:Int) + 1) = ((p + 1:Nat):Int):=by rw [wrap_i64 (by omega) (by omega)];omega
 have w2:IntKind.i64.wrap ((p:Int) + 2) = ((p + 2:Nat):Int):=by rw [wrap_i64 (by omega) (by omega)];omega
 have l0:p < b.length:=by omega
 have l1:p + 1 < b.length:=by omega
 have l2:p + 2 < b.length:=by omega
 have l0I:(p:Int) < (b.length:Int):=by omega
 have l1I:((p + 1:Nat):Int) < (b.length:Int):=by omega
 have l2I:((p + 2:Nat):Int) < (b.length:Int):=by omega
 simp only [jw]
 generalize p + 1 = p1 at *
 generalize p + 2 = p2 at *
 (refine ⟨0,?_⟩;simp [-getElem?_pos,go_sem,eqV,ah,h1,h4,hx,hy,hz,w1,w2,l0,l1,l2,l0I,l1I,l2I,UZ,hL,ak])
theorem emI:bZ X 3 = .pi .i64 []:=by kernel_rfl
theorem acr {m p τ1 τ2 τ3:Nat} {v:AV} {E:AM.Heap} (h1:E[0]? = some (some (bxN (.ro c (.pb b) τ1) τ2))) (h4:E[4]? = some (some (bxN (.map 3 0) τ3))) (hp:p + 3≤b.length) (hb:b.length≤100000) (hL:lC X E 94 (.map 3 0) (.agg (.pb (pK b p))) false = some (.ro 0 .pn 0)) :
  ∃ code,((Try.f43.body).bind (aB [1,1,1,1,0,1,0,0,1,0,1,0,1,0,0])) = some code∧Run X (evT X) 43 m code (jw v p 0 0 ++ [(23,.bool true)]) E ⟨.normal,jw v p 0 0 ++ [(9,.sl E.length 0 0 0)],E ++ [some (rwF (ig []))]⟩:=by
 refine ⟨_,rfl,?_⟩
 simp only [bxN] at h1 h4
 obtain ⟨x,hx⟩:∃ x,b[p]? = some x:=⟨_,atB (by omega)⟩
 obtain ⟨y,hy⟩:∃ x,b[p + 1]? = some x:=⟨_,atB (by omega)⟩
 obtain ⟨z,hz⟩:∃ x,b[p + 2]? = some x:=⟨_,atB (by omega)⟩
 rw [key_eq hx hy hz] at hL
 have w1:IntKind.i64.wrap ((p:Int) + 1) = ((p + 1:Nat):Int):=by rw [wrap_i64 (by omega) (by omega)];omega
 have w2:IntKind.i64.wrap ((p:Int) + 2) = ((p + 2:Nat):Int):=by rw [wrap_i64 (by omega) (by omega)];omega
 have l0:p < b.length:=by omega
 have l1:p + 1 < b.length:=by omega
 have l2:p + 2 < b.length:=by omega
 have l0I:(p:Int) < (b.length:Int):=by omega
 have l1I:((p + 1:Nat):Int) < (b.length:Int):=by omega
 have l2I:((p + 2:Nat):Int) < (b.length:Int):=by omega
 simp only [jw,rwF,ig,auj]
 generalize p + 1 = p1 at *
 generalize p + 2 = p2 at *
 (refine ⟨0,?_⟩;simp [-getElem?_pos,go_sem,eqV,ah,h1,h4,hx,hy,hz,w1,w2,l0,l1,l2,l0I,l1I,l2I,UZ,hL,ak,rowOf,emI])
theorem aga {m p:Nat} {v:AV} {E:AM.Heap} (h:NtV c b t E 0 4 3 ex M) (hk:∀ y ∈ M,y.1.length = 3) (hp:p + 3≤b.length) (hb:b.length≤100000) :
  ∃ E' o g τ ob,E'[o]? = some (some ob)∧RwT (ig (lkM M (pK b p))) g τ ob∧(∃ r,E' = E ++ r)∧∃ code,((Try.f43.body).bind (aB [1,1,1,1,0,1,0,0,1,0,1,0,1,0,0])) = some code∧Run X (evT X) 43 m code (jw v p 0 0 ++ [(23,.bool true)]) E ⟨.normal,jw v p 0 0 ++ [(9,.sl o 0 (lkM M (pK b p)).length g)],E'⟩:=by
 obtain ⟨τ1,τ2,_,_,h1⟩:=h.bx
 obtain ⟨τ3,_,h4⟩:=h.mb
 obtain ⟨τ5,_,h3⟩:=h.mp
 have hlive:live E 3 0 = some (pmO (ntE ex M) τ5):=by simp [live,h3,pmO]
 obtain ⟨x,hx⟩:∃ x,b[p]? = some x:=⟨_,atB (by omega)⟩
 obtain ⟨y,hy⟩:∃ x,b[p + 1]? = some x:=⟨_,atB (by omega)⟩
 obtain ⟨z,hz⟩:∃ x,b[p + 2]? = some x:=⟨_,atB (by omega)⟩
 have hkey:=key_eq hx hy hz
 have hkl:(pK b p).length = 3:=by rw [hkey];rfl
 have hfit:uO X 94 (.agg (.pb (pK b p))) = true:=by rw [hkey];exact af7 x y z
 unfold lkM
 cases hidx:yM (pK b p) M 0 with
 | some j =>
  obtain ⟨⟨o,g⟩,l,f1,f2,f3⟩:=oq (ex:=ex) h.len (fun y hy=>by rw [hk y hy,hkl]) hidx
  simp only [avI] at f1 f2
  have hL:lC X E 94 (.map 3 0) (.agg (.pb (pK b p))) false = some (.sl o 0 l.length g):=by
   unfold lC
   rw [hfit]
   simp only [avu,if_false,hlive,pmO]
   rw [f3]
   rfl
  obtain ⟨o',g',τ,ob,r1,r2,r3,r4⟩:=h.rows.at' j (ig l) (by rw [atI,f2];rfl)
  rw [f1] at r1
  obtain ⟨rfl,rfl⟩:o = o'∧g = g':=by simpa using r1
  have hg:(M.getD j ([],[])).2 = l:=by rw [atH,f2];rfl
  simp only [hg]
  exact ⟨E,o,g,τ,ob,r3,r4,⟨[],by simp⟩,acp h1 h4 hp hb hL⟩
 | none =>
  have f3:=lT (ex:=ex) h.len (fun y hy=>by rw [hk y hy,hkl]) hidx
  have hL:lC X E 94 (.map 3 0) (.agg (.pb (pK b p))) false = some (.ro 0 .pn 0):=by
   unfold lC
   rw [hfit]
   simp only [avu,if_false,hlive,pmO]
   rw [f3]
   simp [aaN]
  exact ⟨E ++ [some (rwF (ig []))],E.length,0,0,rwF (ig []),by simp,⟨rfl,rfl,rfl,rfl,rfl⟩,⟨_,rfl⟩,acr h1 h4 hp hb hL⟩
theorem agb {m p τ1 τ2:Nat} {v:AV} {E:AM.Heap} (h1:E[0]? = some (some (bxN (.ro c (.pb b) τ1) τ2))) (hp:p≤100000):∃ code,((Try.f43.body).bind (aB [1,1,1,1,0,1,0,0,1,0,1,0,0])) = some code∧Run X (evT X) 43 m code (jw v p 0 0) E ⟨.normal,jw v p 0 0 ++ [(23,.bool (decide (p + 3≤b.length)))],E⟩:=by
 refine ⟨_,rfl,?_⟩
 simp only [bxN] at h1
 simp only [jw]
 have w1:IntKind.i64.wrap ((p:Int) + 3) = ((p + 3:Nat):Int):=by rw [wrap_i64 (by omega) (by omega)];omega
 by_cases hl:p + 3≤b.length
 ·have hlI:((p + 3:Nat):Int)≤(b.length:Int):=by omega
  rw [decide_eq_true hl]
  generalize p + 3 = p3 at *
  (refine ⟨0,?_⟩;simp [-getElem?_pos,go_sem,eqV,ah,h1,w1,hl,hlI])
 ·have hlI:¬ ((p + 3:Nat):Int)≤(b.length:Int):=by omega
  rw [decide_eq_false hl]
  generalize p + 3 = p3 at *
  (refine ⟨0,?_⟩;simp [-getElem?_pos,go_sem,eqV,ah,h1,w1,hl,hlI])
theorem aaj {m p:Nat} {v:AV} {E:AM.Heap} (h:NtV c b t E 0 4 3 ex M) (hk:∀ y ∈ M,y.1.length = 3∧y.2.length≤100000∧∀ x ∈ y.2,x < p) (hp:p≤100000) (hb:b.length≤100000) :
  ∃ code,((Try.f43.body).bind (aB [1,1,1,1,0,1,0,0,1,0,1,0])) = some code∧aj (Goes fun fr E'=>cO [1,3,4,5,6,7,8] fr = jw v p (lU b M p).1 (lU b M p).2∧∃ r,E' = E ++ r) X (evT X) 43 m code (jw v p 0 0) E:=by
 refine ⟨_,rfl,?_⟩
 obtain ⟨τ1,τ2,_,_,h1⟩:=h.bx
 apply aj.seq (piece (agb h1 hp) _ rfl)
 unfold lU
 by_cases hl:p + 3≤b.length
 ·rw [decide_eq_true hl,if_pos hl]
  refine aj.yu (by simp [jw,aJ,ay]) ?_
  obtain ⟨E',o,g,τ,ob,k1,k2,⟨r,rfl⟩,hr⟩:=aga (m:=m) (v:=v) h (fun y hy=>(hk y hy).1) hl hb
  apply aj.seq (piece hr _ rfl)
  have hN:=h.cat r
  have hlk:(∀ x ∈ lkM M (pK b p),x < p)∧(lkM M (pK b p)).length≤100000:=by
   unfold lkM
   cases hidx:yM (pK b p) M 0 with
   | none=>simp
   | some j =>
    obtain ⟨_,l,hM⟩:=zL hidx
    rw [avI] at hM
    have hg:M.getD j ([],[]) = (pK b p,l):=by rw [atH,hM];rfl
    simp only [hg]
    have:=hk _ (atL hM)
    exact ⟨this.2.2,this.2.1⟩
  generalize lkM M (pK b p) = l at *
  apply aj.seq (fr':=lQ v p 0 0 o l.length g ((l.length:Int) - 1)) (H':=E ++ r)
  ·have hg:=k2.g
   have w1:IntKind.i64.wrap ((l.length:Int) - 1) = (l.length:Int) - 1:=by rw [wrap_i64 (by omega) (by omega)]
   generalize l.length = N at *
   simp only [lQ,jw]
   (refine ⟨0,?_⟩;simp [-getElem?_pos,go_sem,eqV,ah,k1,hg,w1,ak])
  refine (piece (aai (m:=m) (v:=v) hN k1 k2 hlk.1 hp hb hlk.2) _ rfl).mono ?_
  rintro ⟨ex',fr,E'⟩ ⟨he,I,hfr,hE⟩
  simp only at he hfr hE
  subst hfr hE
  exact ⟨he,by simp [lQ,jw,cO,ay],r,rfl⟩
 ·rw [decide_eq_false hl,if_neg hl]
  refine aj.afe (by simp [jw,aJ,ay]) ?_
  exact aj.of (o:=⟨.normal,jw v p 0 0 ++ [(23,.bool false)],E⟩) ⟨0,rfl⟩ ⟨rfl,by simp [jw,cO,ay],[],by simp⟩
end
structure Pc where
 len:Nat
 dist:Nat
 byte:UInt8
deriving DecidableEq
def pcR (x:Pc):AV:=.pc [.int .i64 (x.len:Nat),.int .i64 (x.dist:Nat),.int .u8 (x.byte.toNat:Nat)]
def pcO (x:Pc):AM.Obj:=⟨pcR x,0,some 3,1,false,true,0⟩
def fA (b:List UInt8) (M:Pls) (p:Nat):Pc:=if 3≤(lU b M p).1 then ⟨(lU b M p).1,(lU b M p).2,0⟩ else ⟨0,0,b.getD p 0⟩
theorem agc (y:Int):mJ X 91 [(2,.int .u8 y)] = some (.agg (.pc [.int .i64 0,.int .i64 0,.int .u8 y])):=by kernel_rfl
theorem agd (n d:Int):mJ X 91 [(0,.int .i64 n),(1,.int .i64 d)] = some (.agg (.pc [.int .i64 n,.int .i64 d,.int .u8 0])):=by kernel_rfl
theorem agf (l:List AV):mX X 91 l = some (.pc l):=by kernel_rfl
theorem ao4 (H:AM.Heap) (n d y:Int):bT X H 75 1 [(0,.agg (.pc [.int .i64 n,.int .i64 d,.int .u8 y]))] = some (.ro 1 (.pr 3 [.pc [.int .i64 n,.int .i64 d,.int .u8 y]]) 0,H):=by kernel_rfl
section
variable {c:Nat} {b:List UInt8} {t:Nat} {H:AM.Heap} {ex:List (Nat × Nat)} {M:Pls}
def qy (v:AV) (p q:Nat):AM.Frame:=[(1,.ptr 0 0 0 0),(3,v),(4,.ptr 4 0 0 0),(5,fnV),(6,.int .i64 (p:Nat)),(12,.ptr q 0 0 0)]
def uJ (v:AV) (p n i:Nat):AM.Frame:=[(1,.ptr 0 0 0 0),(3,v),(4,.ptr 4 0 0 0),(5,fnV),(6,.int .i64 (p:Nat)),(94,.int .i64 (n:Nat)),(95,.int .i64 (i:Nat))]
theorem acs {m p n d τ1 τ2:Nat} {y:UInt8} {v:AV} {fr:AM.Frame} {E:AM.Heap} (hf:cO [1,3,4,5,6,7,8] fr = jw v p n d) (h1:E[0]? = some (some (bxN (.ro c (.pb b) τ1) τ2))) (hy:b[p]? = some y) (hb:b.length≤100000) :
  ∃ code,((Try.f43.body).bind (aB [1,1,1,1,0,1,0,0,1,0,1,1,0])) = some code∧Run X (evT X) 43 m code fr E ⟨.normal,jw v p n d ++ [(12,.ptr E.length 0 0 0)],E ++ [some (pcO ⟨0,0,y⟩)]⟩:=by
 refine ⟨_,rfl,?_⟩
 simp only [bxN] at h1
 have g1:ay fr 1 = .ptr 0 0 0 0:=by simpa [cO,jw,ay] using congrArg (fun f=>ay f 1) hf
 have g3:ay fr 3 = v:=by simpa [cO,jw,ay] using congrArg (fun f=>ay f 3) hf
 have g4:ay fr 4 = .ptr 4 0 0 0:=by simpa [cO,jw,ay] using congrArg (fun f=>ay f 4) hf
 have g5:ay fr 5 = fnV:=by simpa [cO,jw,ay] using congrArg (fun f=>ay f 5) hf
 have g6:ay fr 6 = .int .i64 (p:Nat):=by simpa [cO,jw,ay] using congrArg (fun f=>ay f 6) hf
 have g7:ay fr 7 = .int .i64 (n:Nat):=by simpa [cO,jw,ay] using congrArg (fun f=>ay f 7) hf
 have g8:ay fr 8 = .int .i64 (d:Nat):=by simpa [cO,jw,ay] using congrArg (fun f=>ay f 8) hf
 have hp:=dR hy
 have hpI:(p:Int) < (b.length:Int):=by omega
 simp only [jw,pcO,pcR]
 (refine ⟨0,?_⟩;simp [-getElem?_pos,go_sem,eqV,ah,g1,g3,g4,g5,g6,g7,g8,h1,hy,hp,hpI,agc,Bq,xB,splice,jq,scalars,scalar])
theorem acu {m p n d q:Nat} {y:UInt8} {v:AV} {E:AM.Heap} (hq:E[q]? = some (some (pcO ⟨0,0,y⟩))):∃ code,((Try.f43.body).bind (aB [1,1,1,1,0,1,0,0,1,0,1,1,1,0])) = some code∧∃ fr',Run X (evT X) 43 m code (jw v p n d ++ [(12,.ptr q 0 0 0)]) E ⟨.normal,fr',if 3≤n then upd E q (some (pcO ⟨n,d,0⟩)) else E⟩∧cO [1,3,4,5,6,12] fr' = qy v p q:=by
 refine ⟨_,rfl,?_⟩
 by_cases hn:3≤n
 ·rw [if_pos hn]
  refine ⟨qy v p q,?_,by simp [qy,cO,ay]⟩
  have hnI:(3:Int)≤(n:Int):=by omega
  apply Run.seq (fr':=jw v p n d ++ [(12,.ptr q 0 0 0),(84,.bool true)]) (H':=E)
  ·simp only [jw]
   (refine ⟨0,?_⟩;simp [-getElem?_pos,go_sem,eqV,ah,hnI,hn])
  refine Run.cond (d:=true) (by simp [jw,aJ,ay]) ?_
  simp only [jw,qy,pcO,pcR] at hq ⊢
  (refine ⟨0,?_⟩;simp [-getElem?_pos,go_sem,eqV,ah,hq,agd,splice,jq,scalars,scalar])
 ·rw [if_neg hn]
  refine ⟨jw v p n d ++ [(12,.ptr q 0 0 0),(84,.bool false)],?_,by simp [jw,qy,cO,ay]⟩
  have hnI:¬ (3:Int)≤(n:Int):=by omega
  apply Run.seq (fr':=jw v p n d ++ [(12,.ptr q 0 0 0),(84,.bool false)]) (H':=E)
  ·simp only [jw]
   (refine ⟨0,?_⟩;simp [-getElem?_pos,go_sem,eqV,ah,hnI,hn])
  exact Run.cond (d:=false) (by simp [jw,aJ,ay]) ⟨0,rfl⟩
theorem acv {m p q N g:Nat} {x:Pc} {v:AV} {fr:AM.Frame} {E E':AM.Heap} (hf:cO [1,3,4,5,6,12] fr = qy v p q) (hq:E[q]? = some (some (pcO x))) (hA:bH X E 75 v (.ro 1 (.pr 3 [pcR x]) 0) = some (.sl 2 0 N g,E')) :
  ∃ code,((Try.f43.body).bind (aB [1,1,1,1,0,1,0,0,1,0,1,1,1,1,0])) = some code∧Run X (evT X) 43 m code fr E ⟨.normal,qy (.sl 2 0 N g) p q,E'⟩:=by
 refine ⟨_,rfl,?_⟩
 have g1:ay fr 1 = .ptr 0 0 0 0:=by simpa [cO,qy,ay] using congrArg (fun f=>ay f 1) hf
 have g3:ay fr 3 = v:=by simpa [cO,qy,ay] using congrArg (fun f=>ay f 3) hf
 have g4:ay fr 4 = .ptr 4 0 0 0:=by simpa [cO,qy,ay] using congrArg (fun f=>ay f 4) hf
 have g5:ay fr 5 = fnV:=by simpa [cO,qy,ay] using congrArg (fun f=>ay f 5) hf
 have g6:ay fr 6 = .int .i64 (p:Nat):=by simpa [cO,qy,ay] using congrArg (fun f=>ay f 6) hf
 have g7:ay fr 12 = .ptr q 0 0 0:=by simpa [cO,qy,ay] using congrArg (fun f=>ay f 12) hf
 simp only [qy,pcO,pcR] at hq hA ⊢
 (refine ⟨0,?_⟩;simp [-getElem?_pos,go_sem,eqV,ah,g1,g3,g4,g5,g6,g7,hq,hA,ao4,agf,ng,retag,ak])
theorem acw {m p q:Nat} {x:Pc} {v:AV} {E:AM.Heap} (hq:E[q]? = some (some (pcO x))) :
  ∃ code,((Try.f43.body).bind (aB [1,1,1,1,0,1,0,0,1,0,1,1,1,1,1,0])) = some code∧Run X (evT X) 43 m code (qy v p q) E ⟨.normal,uJ v p (max 1 x.len) 0,E⟩:=by
 refine ⟨_,rfl,?_⟩
 simp only [qy,uJ,pcO,pcR] at hq ⊢
 by_cases h:1≤x.len
 ·rw [Nat.max_eq_right h]
  have hI:(1:Int)≤(x.len:Int):=by omega
  have hI2:max 1 (x.len:Int) = (x.len:Int):=by omega
  have hI3:¬ (x.len:Int) < 1:=by omega
  (refine ⟨0,?_⟩;simp [-getElem?_pos,go_sem,eqV,ah,hq,h,hI,hI2,hI3,kE])
  intro hx
  omega
 ·have h0:x.len = 0:=by omega
  rw [h0] at hq ⊢
  (refine ⟨0,?_⟩;simp [-getElem?_pos,go_sem,eqV,ah,hq,kE])
end
def Jv (b:List UInt8) (M:Pls) (p:Nat):Nat→Pls
 | 0=>M
 | k + 1=>ntB b (Jv b M p k) (p + k)
def qE (b:List UInt8):Nat→Pls→Nat→List Pc
 | 0,_,_=>[]
 | f + 1,M,p=>if p < b.length then fA b M p :: qE b f (Jv b M p (max 1 (fA b M p).len)) (p + max 1 (fA b M p).len) else []
def BG (M:Pls) (p:Nat):Prop:=M.length≤p∧∀ y ∈ M,y.1.length = 3∧y.2.length≤p∧∀ x ∈ y.2,x < p
theorem BG.nt {b:List UInt8} {M:Pls} {p:Nat} (h:BG M p):BG (ntB b M p) (p + 1):=by
 unfold ntB
 by_cases hl:p + 3≤b.length
 ·rw [if_pos hl]
  have hkl:(pK b p).length = 3:=by unfold pK;rw [auq,atZ];omega
  cases hidx:yM (pK b p) M 0 with
  | none =>
   rw [RI hidx]
   refine ⟨by simp;exact h.1,?_⟩
   intro y hy
   rcases atM.1 hy with hy | hy
   ·obtain ⟨a1,a2,a3⟩:=h.2 y hy
    exact ⟨a1,by omega,fun x hx=>by have:=a3 x hx;omega⟩
   ·rw [at7.1 hy]
    refine ⟨hkl,by simp,fun x hx=>?_⟩
    rw [at7.1 hx]
    omega
  | some j =>
   obtain ⟨_,l,hl2⟩:=zL hidx
   rw [avI] at hl2
   rw [RH hidx hl2]
   refine ⟨by simp;have:=h.1;omega,?_⟩
   intro y hy
   rcases List.mem_or_eq_of_mem_set hy with hy | rfl
   ·obtain ⟨a1,a2,a3⟩:=h.2 y hy
    exact ⟨a1,by omega,fun x hx=>by have:=a3 x hx;omega⟩
   ·obtain ⟨a1,a2,a3⟩:=h.2 _ (atL hl2)
    refine ⟨hkl,by simp;exact a2,fun x hx=>?_⟩
    rcases atM.1 hx with hx | hx
    ·have:=a3 x hx;omega
    ·rw [at7.1 hx];omega
 ·rw [if_neg hl]
  refine ⟨by have:=h.1;omega,fun y hy=>?_⟩
  obtain ⟨a1,a2,a3⟩:=h.2 y hy
  exact ⟨a1,by omega,fun x hx=>by have:=a3 x hx;omega⟩
theorem BG.up {b:List UInt8} {M:Pls} {p:Nat} (h:BG M p):∀ k,BG (Jv b M p k) (p + k)
 | 0=>h
 | k + 1=>by
  have:=(BG.up (b:=b) h k).nt (b:=b)
  exact this
theorem I9 (b:List UInt8) (i k:Nat):∀ (f n:Nat),k + n≤b.length→k + eX b i k f n≤b.length
 | 0,n,h=>h
 | f + 1,n,h=>by
  unfold eX
  split
  ·exact I9 b i k f (n + 1) (by omega)
  ·exact h
theorem NZ (b:List UInt8) (p:Nat) (hp:p≤b.length):∀ (l:List Nat) (s:Nat × Nat),p + s.1≤b.length→s.1≤258→p + (ug b p l s).1≤b.length∧(ug b p l s).1≤258
 | [],s,h,h2=>⟨h,h2⟩
 | x :: r,s,h,h2=>by
  unfold ug
  split
  ·refine NZ b p hp r _ ?_ ?_
   ·split
    ·exact I9 b x p 258 0 (by omega)
    ·exact h
   ·split
    ·exact (Ba b x p 258 0 (by omega)).1
    ·exact h2
  ·exact ⟨h,h2⟩
theorem KT {b:List UInt8} {M:Pls} {p:Nat} (hp:p≤b.length):p + (lU b M p).1≤b.length∧(lU b M p).1≤258:=by
 unfold lU
 split
 ·exact NZ b p hp _ _ (by simpa using hp) (by simp)
 ·exact ⟨by simpa using hp,by simp⟩
theorem xE {b:List UInt8} {M:Pls} {p:Nat} (hp:p < b.length):p + max 1 (fA b M p).len≤b.length:=by
 have:=KT (M:=M) (Nat.le_of_lt hp)
 unfold fA
 split <;> simp only <;> omega
section
variable {c:Nat} {b:List UInt8} {t:Nat} {H:AM.Heap} {ex:List (Nat × Nat)} {M:Pls}
structure PcV (c:Nat) (b:List UInt8) (t:Nat) (E:AM.Heap) (v:AV) (L:List Pc) (ex:List (Nat × Nat)) (M:Pls):Prop where
 nt:NtV c b t E 0 4 3 ex M
 row:∃ g ob,v = .sl 2 0 L.length g∧E[2]? = some (some ob)∧Rw (.pr 3 (L.map pcR)) g ob
 off:∀ x ∈ ex,x.1 ≠ 2
theorem acy {m p n i:Nat} {v:AV} {E E':AM.Heap} (hp:p≤100000) (hi:i≤100000) (hE:evT X 59 [.int .i64 (p:Nat),.ptr 0 0 0 0,.ptr 4 0 0 0] E = some (.tup [],E')):∃ code,((Try.f43.body).bind (aB [1,1,1,1,0,1,0,0,1,0,1,1,1,1,1,1,0,0,1,1])) = some code∧Run X (evT X) 43 m code (uJ v p n i ++ [(96,.bool true)]) E ⟨.normal,uJ v (p + 1) n (i + 1),E'⟩:=by
 refine ⟨_,rfl,?_⟩
 have w1:IntKind.i64.wrap ((p:Int) + 1) = ((p + 1:Nat):Int):=by rw [wrap_i64 (by omega) (by omega)];omega
 have w2:IntKind.i64.wrap ((i:Int) + 1) = ((i + 1:Nat):Int):=by rw [wrap_i64 (by omega) (by omega)];omega
 apply Run.seq (fr':=uJ v (p + 1) n i) (H':=E')
 ·apply Run.block
  ·apply Run.seq (fr':=uJ v p n i) (H':=E')
   ·simp only [uJ,fnV]
    (refine ⟨0,?_⟩;simp [-getElem?_pos,go_sem,eqV,ah,hE])
   ·generalize p + 1 = p1 at *
    simp only [uJ,fnV]
    (refine ⟨0,?_⟩;simp [-getElem?_pos,go_sem,eqV,ah,w1,ak])
  ·simp
 ·generalize p + 1 = p1 at *
  generalize i + 1 = i1 at *
  simp only [uJ,fnV]
  (refine ⟨0,?_⟩;simp [-getElem?_pos,go_sem,eqV,ah,w2])
theorem PcV.note {p:Nat} {v:AV} {L:List Pc} {E:AM.Heap} (h:PcV c b t E v L ex M) (hM:BG M p) (hp:p≤1400) (hb:b.length≤1400):∃ E' ex',evT X 59 [.int .i64 (p:Nat),.ptr 0 0 0 0,.ptr 4 0 0 0] E = some (.tup [],E')∧PcV c b t E' v L ex' (ntB b M p)∧E.length≤E'.length:=by
 obtain ⟨E',ex',h1,h2,h3,h4,h5,h6⟩:=aah (i:=p) h.nt (by omega) (by omega) (fun y hy=>⟨(hM.2 y hy).1,by have:=(hM.2 y hy).2.1;omega⟩) (by have:=hM.1;omega)
 obtain ⟨g,ob,rfl,ho,hw⟩:=h.row
 have hl:=dR ho
 refine ⟨E',ex',h1,⟨h2,⟨g,ob,rfl,?_,hw⟩,?_⟩,h5⟩
 ·rw [h6 2 hl (by omega) (by omega) (by omega) (fun hm=>by
   obtain ⟨x,hx,hx2⟩:=aub.1 hm
   exact h.off x hx hx2)]
  exact ho
 ·intro x hx
  obtain ⟨k,hk,rfl⟩:=avq.1 hx
  by_cases hkl:k < ex.length
  ·obtain ⟨g2,hg2⟩:=h3 k _ (atB hkl)
   rw [atB hk] at hg2
   rw [atK hg2]
   have:=h.off _ (List.getElem_mem hkl)
   exact this
  ·have:=h4 k _ (by omega) (atB hk)
   omega
theorem aak {m p n:Nat} {v:AV} {L:List Pc} {E:AM.Heap} (h:PcV c b t E v L ex M) (hM:BG M p) (hp:p + n≤b.length) (hb:b.length≤1400) :
  ∃ code,((Try.f43.body).bind (aB [1,1,1,1,0,1,0,0,1,0,1,1,1,1,1,1])) = some code∧aj (Goes fun fr E'=>fr = uJ v (p + n) n n ++ [(96,.bool false)]∧∃ ex',PcV c b t E' v L ex' (Jv b M p n)) X (evT X) 43 m code (uJ v p n 0) E:=by
 refine ⟨_,rfl,?_⟩
 apply aj.block
 refine aj.kQ (I:=fun q fr E'=>∃ i ex',i≤n∧q = n - i∧fr = uJ v (p + i) n i∧PcV c b t E' v L ex' (Jv b M p i)) ?_ (k:=n) ⟨0,ex,by omega,rfl,rfl,h⟩
 rintro q fr E' ⟨i,ex',hi,rfl,rfl,hV⟩
 by_cases hin:i = n
 ·subst hin
  refine aj.of (o:=⟨.exit 4,uJ v (p + i) i i ++ [(96,.bool false)],E'⟩) ?_ (.inr ⟨by simp,rfl,rfl,ex',hV⟩)
  generalize p + i = pi at *
  refine ⟨0,?_⟩
  simp only [uJ]
  simp [-getElem?_pos,go_sem,eqV,ah]
 ·have hlt:i < n:=by omega
  have qQ:(i:Int) < (n:Int):=by omega
  obtain ⟨E2,ex2,h1,h2,h3⟩:=hV.note (hM.up i) (by omega) hb
  refine aj.of (o:=⟨.normal,uJ v (p + i + 1) n (i + 1),E2⟩) ?_ (.inl ⟨rfl,n - (i + 1),by omega,i + 1,ex2,by omega,rfl,rfl,h2⟩)
  apply Run.seq (fr':=uJ v (p + i) n i ++ [(96,.bool true)]) (H':=E')
  ·generalize p + i = pi at *
   simp only [uJ]
   (refine ⟨0,?_⟩;simp [-getElem?_pos,go_sem,eqV,ah,qQ,hlt])
  apply Run.seq (fr':=uJ v (p + i) n i ++ [(96,.bool true)]) (H':=E')
  ·exact Run.cond (d:=true) (by simp [uJ,aJ,ay]) ⟨0,rfl⟩
  exact piece (acy (by omega) (by omega) h1) _ rfl
end
section
variable {c:Nat} {b:List UInt8} {t:Nat} {H:AM.Heap} {ex:List (Nat × Nat)} {M:Pls}
theorem aal {m p:Nat} {v:AV} {L:List Pc} {E:AM.Heap} (h:PcV c b t E v L ex M) (hM:BG M p) (hp:p < b.length) (hb:b.length≤1400) (hL:L.length≤1400) :
  ∃ code,((Try.f43.body).bind (aB [1,1,1,1,0,1,0,0,1])) = some code∧aj (Goes fun fr E'=>∃ v' ex',cO [1,3,4,5,6] fr = rV v' (p + max 1 (fA b M p).len)∧PcV c b t E' v' (L ++ [fA b M p]) ex' (Jv b M p (max 1 (fA b M p).len))) X (evT X) 43 m code (rV v p ++ [(18,.bool true)]) E:=by
 refine ⟨_,rfl,?_⟩
 refine aj.blk ?_ (by
  rintro o ⟨ho,_⟩
  rw [ho]
  simp)
 apply aj.seq (fr':=jw v p 0 0) (H':=E)
 ·simp only [rV,jw]
  (refine ⟨0,?_⟩;simp [-getElem?_pos,go_sem,eqV,ah,ak])
 apply aj.andThen (piece (aaj (m:=m) (v:=v) h.nt (fun y hy=>⟨(hM.2 y hy).1,by have:=(hM.2 y hy).2.1;omega,(hM.2 y hy).2.2⟩) (by omega) (by omega)) _ rfl)
 rintro fr E1 ⟨hfr,r,rfl⟩
 obtain ⟨y,hy⟩:∃ y,b[p]? = some y:=⟨_,atB hp⟩
 have hN1:=h.nt.cat r
 obtain ⟨τ1,τ2,_,_,h1⟩:=hN1.bx
 obtain ⟨g,ob,rfl,ho,hw⟩:=h.row
 have ho1:(E ++ r)[2]? = some (some ob):=by rw [atE (dR ho)];exact ho
 generalize E ++ r = E1 at *
 apply aj.seq (piece (acs hfr h1 hy (by omega)) _ rfl)
 have hN2:=hN1.cat [some (pcO ⟨0,0,y⟩)]
 have ho2:(E1 ++ [some (pcO ⟨0,0,y⟩)])[2]? = some (some ob):=by rw [atE (dR ho1)];exact ho1
 have hq2:(E1 ++ [some (pcO ⟨0,0,y⟩)])[E1.length]? = some (some (pcO ⟨0,0,y⟩)):=by simp
 have hlt1:=hN1.lt
 have hl1:=dR ho1
 generalize E1 ++ [some (pcO ⟨0,0,y⟩)] = E2 at *
 obtain ⟨ao5,hc17,ao6,agh,ao7⟩:=acu (m:=m) (p:=p) (n:=(lU b M p).1) (d:=(lU b M p).2) (v:=.sl 2 0 L.length g) hq2
 apply aj.seq (fr':=ao6) (H':=if 3≤(lU b M p).1 then upd E2 E1.length (some (pcO ⟨(lU b M p).1,(lU b M p).2,0⟩)) else E2)
 ·exact (atK hc17) ▸ agh
 have h3:∃ E3,(if 3≤(lU b M p).1 then upd E2 E1.length (some (pcO ⟨(lU b M p).1,(lU b M p).2,0⟩)) else E2) = E3∧E3[E1.length]? = some (some (pcO (fA b M p)))∧(∀ j,j ≠ E1.length→E3[j]? = E2[j]?):=by
  refine ⟨_,rfl,?_,?_⟩
  ·unfold fA
   by_cases hn:3≤(lU b M p).1
   ·rw [if_pos hn,if_pos hn]
    exact setAt hq2
   ·rw [if_neg hn,if_neg hn,atH,hy]
    exact hq2
  ·intro j hj
   split
   ·unfold upd
    rw [atW (auf hj)]
   ·rfl
 obtain ⟨E3,hE3,hq3,hk3⟩:=h3
 rw [hE3]
 clear hE3 agh
 have hN3:NtV c b t E3 0 4 3 ex M:=hN2.keep (hk3 0 (by omega)) (hk3 4 (by omega)) (hk3 3 (by omega)) fun x hx=>hk3 x.1 (by have:=hlt1.2.2.2 x hx;omega)
 have ho3:E3[2]? = some (some ob):=by rw [hk3 2 (by omega)];exact ho2
 obtain ⟨ob',hw',hA⟩:=Lh (C:=X) (T:=75) (e:=91) (es:=3) (H:=E3) (o:=2) (m:=[pcR (fA b M p)]) (src:=.ro 1 (.pr 3 [pcR (fA b M p)]) 0) (by simp) (by simp) (by omega) (by simp) (by simp) ho3 hw rfl (by simp;omega)
 rw [auJ] at hA
 apply aj.seq (piece (acv ao7 hq3 hA) _ rfl)
 have hq4:(upd E3 2 (some ob'))[E1.length]? = some (some (pcO (fA b M p))):=qO hq3 (by omega)
 apply aj.seq (piece (acw hq4) _ rfl)
 have hV:PcV c b t (upd E3 2 (some ob')) (.sl 2 0 (L.length + 1) (g + 1)) (L ++ [fA b M p]) ex M:=by
  have hu:∀ j,j ≠ 2→(upd E3 2 (some ob'))[j]? = E3[j]?:=fun j hj=>by unfold upd;rw [atW (auf hj)]
  refine ⟨hN3.keep (hu 0 (by omega)) (hu 4 (by omega)) (hu 3 (by omega)) fun x hx=>hu x.1 (h.off x hx),⟨g + 1,ob',by simp,setAt ho3,by rw [auA];exact hw'⟩,h.off⟩
 have hfit:=xE (M:=M) hp
 refine (piece (aak (m:=m) hV hM hfit hb) _ rfl).mono ?_
 rintro ⟨xx,fr,E'⟩ ⟨he,hfr2,ex',hV'⟩
 simp only at he hfr2 hV'
 subst hfr2
 exact ⟨he,_,ex',by simp [uJ,rV,cO,ay],hV'⟩
theorem acz:JJ X 94 = true:=by kernel_rfl
theorem agi:bZ X 91 = .pr 3 []:=by kernel_rfl
theorem N7 {m:Nat} (hb:b.length≤1400):∃ code,Try.f43.body = some code ∧
  aj (nK fun fr E'=>∃ g ob,ay fr 2 = .sl 2 0 (qE b b.length [] 0).length g∧E'[2]? = some (some ob)∧Rw (.pr 3 ((qE b b.length [] 0).map pcR)) g ob) X (evT X) 43 m code [(0,.ro c (.pb b) 1)] []:=by
 refine ⟨_,rfl,?_⟩
 apply aj.seq (fr':=[(1,.ptr 0 0 0 0)]) (H':=[some (bxN (.ro c (.pb b) 1) 0),some ⟨.pr 3 [],0,none,0,true,false,0⟩])
 ·simp only [bxN]
  (refine ⟨0,?_⟩;simp [-getElem?_pos,go_sem,eqV,ah,ak,rowOf,agi])
 apply aj.seq (fr':=[(1,.ptr 0 0 0 0),(3,.sl 2 0 0 0)]) (H':=[some (bxN (.ro c (.pb b) 1) 0),some ⟨.pr 3 [],0,none,0,true,false,0⟩,some ⟨.pr 3 [],0,none,0,true,false,0⟩])
 ·simp only [bxN]
  (refine ⟨0,?_⟩;simp [-getElem?_pos,go_sem,eqV,ah,ak,rowOf,agi])
 apply aj.seq (fr':=[(1,.ptr 0 0 0 0),(3,.sl 2 0 0 0),(4,.ptr 4 0 0 0)]) (H':=[some (bxN (.ro c (.pb b) 1) 0),some ⟨.pr 3 [],0,none,0,true,false,0⟩,some ⟨.pr 3 [],0,none,0,true,false,0⟩,some (pmO [] 0),some (bxN (.map 3 0) 0)])
 ·simp only [bxN,pmO]
  (refine ⟨0,?_⟩;simp [-getElem?_pos,go_sem,eqV,ah,acz,BQ,tJ])
 have hV:PcV c b 1 [some (bxN (.ro c (.pb b) 1) 0),some ⟨.pr 3 [],0,none,0,true,false,0⟩,some ⟨.pr 3 [],0,none,0,true,false,0⟩,some (pmO [] 0),some (bxN (.map 3 0) 0)] (.sl 2 0 0 0) [] [] [] :=
  ⟨⟨⟨1,0,.inr rfl,.inl rfl,rfl⟩,⟨0,.inl rfl,rfl⟩,⟨0,.inl rfl,rfl⟩,trivial,by simp⟩,⟨0,⟨.pr 3 [],0,none,0,true,false,0⟩,rfl,rfl,⟨rfl,rfl,rfl,rfl,rfl⟩⟩,by simp⟩
 generalize [some (bxN (.ro c (.pb b) 1) 0),some (⟨.pr 3 [],0,none,0,true,false,0⟩:AM.Obj),some ⟨.pr 3 [],0,none,0,true,false,0⟩,some (pmO [] 0),some (bxN (.map 3 0) 0)] = E0 at *
 apply aj.seq (fr':=[(1,.ptr 0 0 0 0),(3,.sl 2 0 0 0),(4,.ptr 4 0 0 0),(5,fnV)]) (H':=E0)
 ·simp only [fnV]
  (refine ⟨0,?_⟩;simp [-getElem?_pos,go_sem,eqV,ah,scalars,scalar])
 apply aj.assoc
 apply aj.seq (fr':=rV (.sl 2 0 0 0) 0) (H':=E0)
 ·simp only [rV,fnV]
  (refine ⟨0,?_⟩;simp [-getElem?_pos,go_sem,eqV,ah])
 apply aj.andThen (P:=fun fr E'=>∃ v ex M,ay fr 3 = v∧PcV c b 1 E' v (qE b b.length [] 0) ex M)
 ·apply aj.block
  refine aj.kQ (I:=fun q fr E'=>∃ v L ex M p,cO [1,3,4,5,6] fr = rV v p∧PcV c b 1 E' v L ex M∧BG M p∧p≤b.length∧b.length≤p + q∧L.length≤p∧L ++ qE b q M p = qE b b.length [] 0) ?_ (k:=b.length) ⟨_,[],[],[],0,by simp [rV,cO,ay],hV,⟨by simp,by simp⟩,by omega,by omega,by simp,rfl⟩
  rintro q fr E' ⟨v,L,ex,M,p,hfr,hV,hM,hp,hq,hL,he⟩
  have g1:ay fr 1 = .ptr 0 0 0 0:=by simpa [cO,rV,ay] using congrArg (fun f=>ay f 1) hfr
  have g3:ay fr 3 = v:=by simpa [cO,rV,ay] using congrArg (fun f=>ay f 3) hfr
  have g4:ay fr 4 = .ptr 4 0 0 0:=by simpa [cO,rV,ay] using congrArg (fun f=>ay f 4) hfr
  have g5:ay fr 5 = fnV:=by simpa [cO,rV,ay] using congrArg (fun f=>ay f 5) hfr
  have g6:ay fr 6 = .int .i64 (p:Nat):=by simpa [cO,rV,ay] using congrArg (fun f=>ay f 6) hfr
  obtain ⟨τ1,τ2,_,_,h1⟩:=hV.nt.bx
  simp only [bxN] at h1
  apply aj.assoc
  by_cases hpl:p < b.length
  ·have acA:(p:Int) < (b.length:Int):=by omega
   obtain ⟨q,rfl⟩:∃ q',q = q' + 1:=⟨q - 1,by omega⟩
   apply aj.seq (fr':=rV v p ++ [(18,.bool true)]) (H':=E')
   ·simp only [rV]
    (refine ⟨0,?_⟩;simp [-getElem?_pos,go_sem,eqV,ah,g1,g3,g4,g5,g6,h1,acA,hpl])
   apply aj.seq (fr':=rV v p ++ [(18,.bool true)]) (H':=E')
   ·exact Run.cond (d:=true) (by simp [rV,aJ,ay]) ⟨0,rfl⟩
   refine (piece (aal (m:=m) hV hM hpl hb (by omega)) _ rfl).mono ?_
   rintro ⟨xx,fr2,E2⟩ ⟨hx,v',ex',hfr2,hV2⟩
   simp only at hx hfr2 hV2
   subst hx
   have hfit:=xE (M:=M) hpl
   refine .inl ⟨rfl,q,by omega,v',_,ex',_,_,hfr2,hV2,hM.up _,hfit,by omega,by simp;omega,?_⟩
   rw [qE,if_pos hpl] at he
   rw [← he]
   simp
  ·have acA:¬ (p:Int) < (b.length:Int):=by omega
   refine aj.of (o:=⟨.exit 0,rV v p ++ [(18,.bool false)],E'⟩) ?_ (.inr ⟨by simp,rfl,v,ex,M,by simp [rV,ay],?_⟩)
   ·refine Run.seq (fr':=rV v p ++ [(18,.bool false)]) (H':=E') ?_ ?_
    ·simp only [rV]
     (refine ⟨0,?_⟩;simp [-getElem?_pos,go_sem,eqV,ah,g1,g3,g4,g5,g6,h1,acA,hpl])
    ·refine Run.bI ?_ (by simp)
     exact Run.cond (d:=false) (by simp [rV,aJ,ay]) ⟨0,rfl⟩
   ·have hq0:qE b q M p = []:=by
     cases q with
     | zero=>rfl
     | succ q=>rw [qE,if_neg hpl]
    rw [hq0,at1] at he
    rw [← he]
    exact hV
 rintro fr E' ⟨v,ex,M,hv,hV⟩
 obtain ⟨g,ob,rfl,ho,hw⟩:=hV.row
 generalize qE b b.length [] 0 = L at *
 refine aj.of (o:=⟨.ret,[(2,.sl 2 0 L.length g)],E'⟩) ?_ ⟨rfl,g,ob,rfl,ho,hw⟩
 generalize L.length = N at *
 refine ⟨0,?_⟩
 simp [-getElem?_pos,go_sem,eqV,ah,hv,ak]
theorem Yj (L:List Pc):aC (L.map pcR) = []∧aX (L.map pcR) = []:=by
 induction L with
 | nil=>exact ⟨rfl,rfl⟩
 | cons x L ih=>exact ⟨by simp [aC,ih.1,pcR,ids],by simp [aX,ih.2,pcR,tags]⟩
theorem SA {H:AM.Heap} {a:AV} (ha:fC H a = some (.pb b)) (hb:b.length≤1400):∃ ob,Rw (.pr 3 ((qE b b.length [] 0).map pcR)) 0 ob∧evT X 43 [a] H = some (.sl H.length 0 (qE b b.length [] 0).length 0,H ++ [some ob]):=by
 obtain ⟨c,x,hx⟩:=gV (C:=X) (f:=43) (i:=0) rfl ha (dW 1)
 obtain ⟨code,hc,⟨out,⟨ho,g,ob,h1,h2,hw⟩,hrun⟩⟩:=N7 (m:=0) (c:=c) hb
 obtain ⟨f1,f2⟩:=Yj (qE b b.length [] 0)
 obtain ⟨ob',q1,q2⟩:=Ev1.newR (C:=X) (H:=H) (bJ X) (n:=(qE b b.length [] 0).length) (es:=3) (l:=(qE b b.length [] 0).map pcR) (rest:=[]) Try.func43 hc hx rfl (by simp [dn]) rfl rfl rfl f1 f2 (by
  rw [adF]
  refine ⟨out,⟨ho,2,g,ob,?_,h2,hw⟩,hrun⟩
  show aP X out.fr out.H [.tmp 2] = _
  simp [aP,h1])
 exact ⟨ob',q1,dQ q2⟩
end
structure Px where
 len:Int
 dist:Int
 byte:UInt8
def pxR (x:Px):AV:=.pc [.int .i64 x.len,.int .i64 x.dist,.int .u8 (x.byte.toNat:Nat)]
def pxO (x:Px):AM.Obj:=⟨pxR x,0,some 3,1,false,true,0⟩
def nN (x:Px):Bool:=if x.len = 0 then decide (x.dist = 0) else decide (3≤x.len) && (decide (x.len≤258) && (decide (1≤x.dist) && (decide (x.dist≤32768) && decide (x.byte = 0))))
def kY (d:Nat):Nat→List UInt8→List UInt8
 | 0,o=>o
 | n + 1,o=>kY d n (o ++ [o.getD (o.length - d) 0])
def kF:List Px→List UInt8→List UInt8 × Int
 | [],o=>(o,0)
 | x :: r,o=>if nN x = false then ([],2) else if x.len = 0 then kF r (o ++ [x.byte]) else if (o.length:Int) < x.dist then ([],5) else kF r (kY x.dist.toNat x.len.toNat o)
theorem Yk (x:Px):∃ code,Try.f72.body = some code∧aj (nK fun fr H=>ay fr 2 = .bool (nN x)) X (evT X) 72 0 code [(0,.agg (pxR x))] []:=by
 refine ⟨_,rfl,?_⟩
 simp only [pxR]
 apply aj.seq (fr':=[(1,.ptr 0 0 0 0)]) (H':=[some (⟨.pc [.int .i64 x.len,.int .i64 x.dist,.int .u8 (x.byte.toNat:Nat)],0,some 3,1,false,true,0⟩:AM.Obj)])
 ·(refine ⟨0,?_⟩;simp [-getElem?_pos,go_sem,eqV,ah])
 unfold nN
 by_cases h0:x.len = 0
 ·rw [if_pos h0,h0]
  refine aj.of (o:=⟨.ret,[(2,.bool (decide (x.dist = 0)))],[some (⟨.pc [.int .i64 0,.int .i64 x.dist,.int .u8 (x.byte.toNat:Nat)],0,some 3,1,false,true,0⟩:AM.Obj)]⟩) ?_ ⟨rfl,rfl⟩
  refine ⟨0,?_⟩
  by_cases h1:x.dist = 0
  ·rw [decide_eq_true h1,h1]
   simp [-getElem?_pos,go_sem,eqV,ah]
  ·have h1b:(x.dist == 0) = false:=by simpa using h1
   rw [decide_eq_false h1]
   simp [-getElem?_pos,go_sem,eqV,ah,h1,h1b]
 ·rw [if_neg h0]
  have h0b:(x.len == 0) = false:=by simpa using h0
  refine aj.of (o:=⟨.ret,[(2,.bool (decide (3≤x.len) && (decide (x.len≤258) && (decide (1≤x.dist) && (decide (x.dist≤32768) && decide (x.byte = 0))))))],[some (⟨.pc [.int .i64 x.len,.int .i64 x.dist,.int .u8 (x.byte.toNat:Nat)],0,some 3,1,false,true,0⟩:AM.Obj)]⟩) ?_ ⟨rfl,rfl⟩
  refine ⟨0,?_⟩
  by_cases h1:3≤x.len
  ·rw [decide_eq_true h1]
   by_cases h2:x.len≤258
   ·rw [decide_eq_true h2]
    by_cases h3:1≤x.dist
    ·rw [decide_eq_true h3]
     by_cases h4:x.dist≤32768
     ·rw [decide_eq_true h4]
      by_cases h5:x.byte = 0
      ·rw [decide_eq_true h5,h5]
       simp [-getElem?_pos,go_sem,eqV,ah,h0,h0b,h1,h2,h3,h4]
      ·have h5N:¬ x.byte.toNat = 0:=fun h=>h5 (UInt8.toNat_inj.1 h)
       have h5b:((x.byte.toNat:Int) == 0) = false:=by simpa using h5N
       have h5I:¬ (x.byte.toNat:Int) = 0:=by omega
       rw [decide_eq_false h5]
       simp [-getElem?_pos,go_sem,eqV,ah,h0,h0b,h1,h2,h3,h4,h5N,h5b,h5I]
     ·rw [decide_eq_false h4]
      simp [-getElem?_pos,go_sem,eqV,ah,h0,h0b,h1,h2,h3,h4]
    ·rw [decide_eq_false h3]
     simp [-getElem?_pos,go_sem,eqV,ah,h0,h0b,h1,h2,h3]
   ·rw [decide_eq_false h2]
    simp [-getElem?_pos,go_sem,eqV,ah,h0,h0b,h1,h2]
  ·rw [decide_eq_false h1]
   simp [-getElem?_pos,go_sem,eqV,ah,h0,h0b,h1]
theorem acB (H:AM.Heap) (x:Px):evT X 72 [.agg (pxR x)] H = some (.bool (nN x),H):=by
 obtain ⟨code,hc,⟨out,⟨ho,h2⟩,hr⟩⟩:=Yk x
 have hl:aG X 72 H 0 [.agg (pxR x)] = some ([.agg (pxR x)],[⟨[],[]⟩]):=by
  have hrw:X.rw 72 0 = false:=rfl
  simp [aG,hrw,dV,iq,dN,pxR,tags]
 refine dQ (Ev1.tY (l:=[.bool (nN x)]) (bJ X) Try.func72 hc hl rfl (by simp [dn]) rfl rfl rfl ?_)
 rw [adO]
 refine ⟨out,⟨ho,?_⟩,hr⟩
 show some [ay out.fr 2] = _
 rw [h2]
end Go.Proofs.Ytbodincpjijdiaa
