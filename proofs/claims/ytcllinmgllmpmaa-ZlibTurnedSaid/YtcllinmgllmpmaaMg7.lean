/- WT to IO: texts of this claim, one behind the other; what each shows stands at its head. -/
import Derived.Test.YtcllinmgllmpmaaAm3
import Derived.Test.YtcllinmgllmpmaaMg6
set_option linter.unusedSimpArgs false
set_option linter.unusedVariables false
set_option maxRecDepth 100000
set_option maxHeartbeats 8000000
namespace Go.Proofs.Ytcllinmgllmpmaa
open Go.AM
def cap6 (d:Nat):List AV:=[.ptr d 0 0 0,.ptr (d + 1) 0 0 0,.ptr (d + 2) 0 0 0,.ptr (d + 3) 0 0 0,.ptr (d + 4) 0 0 0,.ptr (d + 5) 0 0 0]
section
variable {c:Nat} {b:List UInt8} {m:Int} {n f l:List Int} {t tn:Nat} {pre:AM.Heap}
theorem Sl (a a2:Int) (v:Int × Int × Int) (ht:t = 0∨t = 2) (htn:tn = 0∨tn = 2) :
  wrap (pre ++ nH c b a m n f l pre.length t 2 tn) (piL pre.length (aV l).length) ([⟨[],[]⟩,⟨[],[]⟩,⟨[],[]⟩,⟨[],[]⟩,⟨[],[]⟩,⟨[],[]⟩] ++ [⟨[],ay ((piL pre.length (aV l).length).map (aX (pre ++ nH c b a m n f l pre.length t 2 tn)))⟩]) (t3 v) (nH c b a2 m n f l 0 7 7 7) =
   some (t3 v,pre ++ nH c b a2 m n f l pre.length 2 2 2):=by
 have hpl:(piL pre.length (aV l).length).length = 6 + (aV l).length:=by rw [yI];simp
 have hob:(piL pre.length (aV l).length).map (aX (pre ++ nH c b a m n f l pre.length t 2 tn)) = nH c b a m n f l pre.length t 2 tn:=by
  rw [yI,List.map_map]
  refine List.ext_getElem? fun j=>?_
  by_cases hj:j < 6 + (aV l).length
  ·rw [List.getElem?_map,List.getElem?_range hj]
   simp only [Option.map_some,Function.comp_apply,aX,yj]
   rw [List.getElem?_eq_getElem (by rw [qO];exact hj)]
   rfl
  ·rw [List.getElem?_eq_none (by simp;omega),List.getElem?_eq_none (by rw [qO];omega)]
 have hjt:dO (ay (nH c b a m n f l pre.length t 2 tn)) = some 2:=by
  rw [zQ _ fun u hu=>?_,if_pos (UL _ _)]
  rcases Qc _ _ u hu with rfl | rfl | rfl
  ·exact ht
  ·exact .inr rfl
  ·exact htn
 rw [hob]
 have hb7:dU ([⟨[],[]⟩,⟨[],[]⟩,⟨[],[]⟩,⟨[],[]⟩,⟨[],[]⟩,⟨[],[]⟩] ++ [⟨[],ay (nH c b a m n f l pre.length t 2 tn)⟩]) 7 = some 2:=by
  show dO (ay (nH c b a m n f l pre.length t 2 tn)) = some 2
  exact hjt
 have hg7:dM ([⟨[],[]⟩,⟨[],[]⟩,⟨[],[]⟩,⟨[],[]⟩,⟨[],[]⟩,⟨[],[]⟩] ++ [⟨[],ay (nH c b a m n f l pre.length t 2 tn)⟩]) 7 = []:=rfl
 have hT7:bV ([⟨[],[]⟩,⟨[],[]⟩,⟨[],[]⟩,⟨[],[]⟩,⟨[],[]⟩,⟨[],[]⟩] ++ [⟨[],ay (nH c b a m n f l pre.length t 2 tn)⟩]) 7 = 2:=by unfold bV;rw [hb7];rfl
 have hg0:dM ([⟨[],[]⟩,⟨[],[]⟩,⟨[],[]⟩,⟨[],[]⟩,⟨[],[]⟩,⟨[],[]⟩] ++ [⟨[],ay (nH c b a m n f l pre.length t 2 tn)⟩]) 0 = []:=rfl
 generalize ([⟨[],[]⟩,⟨[],[]⟩,⟨[],[]⟩,⟨[],[]⟩,⟨[],[]⟩,⟨[],[]⟩] ++ [⟨[],ay (nH c b a m n f l pre.length t 2 tn)⟩]:List fC) = aK at *
 have jP:ids (t3 v) = []:=rfl
 have htg:tags (t3 v) = []:=rfl
 have hK:=Xd (c:=c) (b:=b) (a:=a2) (m:=m) (n:=n) (f:=f) (l:=l) 7
 unfold wrap
 rw [jP,List.append_nil,hpl,htg]
 generalize reach (nH c b a2 m n f l 0 7 7 7) aB (List.range (6 + (aV l).length)) [] = K at hK ⊢
 have hfil:K.filter (fun o=>decide (6 + (aV l).length≤o)) = []:=by
  rw [List.filter_eq_nil_iff]
  intro o ho
  have:=hK o ho
  simp;omega
 simp only [hfil]
 have hr2:(List.range (6 + (aV l).length)).map (aX (nH c b a2 m n f l 0 7 7 7)) = nH c b a2 m n f l 0 7 7 7:=by
  refine List.ext_getElem? fun j=>?_
  by_cases hj:j < 6 + (aV l).length
  ·rw [List.getElem?_map,List.getElem?_range hj]
   simp only [Option.map_some,aX]
   rw [List.getElem?_eq_getElem (by rw [qO];exact hj)]
   rfl
  ·rw [List.getElem?_eq_none (by simp;omega),List.getElem?_eq_none (by rw [qO];omega)]
 rw [hr2]
 have hu7:∀ u ∈ ay (nH c b a2 m n f l 0 7 7 7),u = 7:=fun u hu=>by rcases Qc _ _ u hu with h | h | h <;> exact h
 have hpi:∀ i,i < 6 + (aV l).length→(piL pre.length (aV l).length)[i]? = some (pre.length + i):=by
  intro i hi
  rw [yI,List.getElem?_map,List.getElem?_range hi];rfl
 have hgen:∀ i,i < 6 + (aV l).length→fG (pre ++ nH c b a m n f l pre.length t 2 tn) (piL pre.length (aV l).length) i 0 = 0:=by
  intro i hi
  obtain ⟨ob,h1,h2⟩:=Qd (c:=c) (b:=b) (a:=a) (m:=m) (n:=n) (f:=f) (t:=t) (tb:=2) (tn:=tn) (pre:=pre) hi
  unfold fG
  rw [hpi i hi]
  simp [aX,h1,h2]
 have hlen:(pre ++ nH c b a m n f l pre.length t 2 tn).length = pre.length + (6 + (aV l).length):=by rw [List.length_append,qO]
 have hρ:∀ k,k < (aV l).length→bQ (pre ++ nH c b a m n f l pre.length t 2 tn) (piL pre.length (aV l).length) [] (nH c b a2 m n f l 0 7 7 7) (0 + 6 + k) 0 = some (pre.length + 6 + k,0):=by
  intro k hk
  rw [show 0 + 6 + k = 6 + k by omega]
  unfold bQ live
  rw [Et _ hk]
  simp only [kN,if_true]
  rw [hpl,if_pos (by omega),hpi _ (by omega),Option.map_some,hgen _ (by omega)]
  rw [show pre.length + (6 + k) = pre.length + 6 + k by omega]
 have Zd:=UM (c:=c) (b:=b) (a:=a2) (m:=m) (n:=n) (f:=f) (l:=l) (t:=7) (tb:=7) (tn:=7) _ (bV aK) 0 pre.length 2 2 2 hρ hT7 hT7 hT7
 generalize hρd:bQ (pre ++ nH c b a m n f l pre.length t 2 tn) (piL pre.length (aV l).length) [] (nH c b a2 m n f l 0 7 7 7) = ρ at *
 have hF:∀ i,0≤i→i < 0 + (6 + (aV l).length)→((aX (nH c b a2 m n f l 0 7 7 7) i).map fun ob=>aT ρ (bV aK) (fG (pre ++ nH c b a m n f l pre.length t 2 tn) (piL pre.length (aV l).length) i ob.g) ob) = aX (nH c b a2 m n f l pre.length 2 2 2) i:=by
  intro i _ hi
  have e:(aX (nH c b a2 m n f l 0 7 7 7) i).map (fun ob=>aT ρ (bV aK) (fG (pre ++ nH c b a m n f l pre.length t 2 tn) (piL pre.length (aV l).length) i ob.g) ob) = (aX (nH c b a2 m n f l 0 7 7 7) i).map (aT ρ (bV aK) 0):=by
   cases ho:aX (nH c b a2 m n f l 0 7 7 7) i with
   | none=>rfl
   | some ob =>
    have:=aaX _ _ _ ob ho
    simp only [Option.map_some,this,hgen i (by omega)]
  rw [e,← Zd]
  unfold aX
  rw [List.getElem?_map]
  cases (nH c b a2 m n f l 0 7 7 7)[i]? <;> rfl
 have hput:bW ρ (bV aK) (pre ++ nH c b a m n f l pre.length t 2 tn) (piL pre.length (aV l).length) (nH c b a2 m n f l 0 7 7 7) 0 (piL pre.length (aV l).length) (pre ++ nH c b a m n f l pre.length t 2 tn) = pre ++ nH c b a2 m n f l pre.length 2 2 2:=by
  have hrg:piL pre.length (aV l).length = List.range' (pre.length + 0) (6 + (aV l).length):=by rw [yI,List.range'_eq_map_range];rfl
  conv=>lhs;arg 7;rw [hrg]
  refine List.ext_getElem? fun x=>?_
  rw [Di (fun i=>aX (nH c b a2 m n f l pre.length 2 2 2) i) _ 0 _ hF x,hlen]
  by_cases h1:x < pre.length
  ·rw [if_neg (by omega),List.getElem?_append_left h1,List.getElem?_append_left h1]
  ·rw [List.getElem?_append_right (by omega),List.getElem?_append_right (by omega)]
   by_cases h2:x < pre.length + (6 + (aV l).length)
   ·rw [if_pos (by omega)]
    unfold aX
    rw [List.getElem?_eq_getElem (by rw [qO];omega)]
    rfl
   ·rw [if_neg (by omega),List.getElem?_eq_none (by rw [qO];omega),List.getElem?_eq_none (by rw [qO];omega)]
 rw [if_pos ?_]
 ·have hfm:([] ++ ay (nH c b a2 m n f l 0 7 7 7) ++ ay (List.map (aX (nH c b a2 m n f l 0 7 7 7)) [])).flatMap (dM aK) = []:=by
   rw [List.flatMap_eq_nil_iff]
   intro u hu
   simp only [List.map_nil,ay,List.append_nil,List.nil_append] at hu
   rw [hu7 u hu,hg7]
  rw [hfm,hput]
  simp [strike,t3,ren,bn]
 ·rw [List.all_eq_true]
  intro u hu
  simp only [List.map_nil,ay,List.append_nil,List.nil_append] at hu
  rw [hu7 u hu,hb7];rfl
theorem Xe (a:Nat) (hm:0≤m∧m≤15) (hl:l.length≤320) (hn:n.length = 16) (hf:f.length = 17) (hnv:∀ i:Nat,i < 16→n.getD i 0 = ct l i)
  (hfv:∀ i:Nat,i < 16→0≤f.getD i 0∧f.getD i 0 < 100000000) (hb:b.length≤100000) (ha:a < 9223372036854775808) (ht:t = 0∨t = 2) (htn:tn = 0∨tn = 2) :
  Ev1 X 89 (cap6 pre.length) (pre ++ nH c b (a:Nat) m n f l pre.length t 2 tn) (t3 (oZ l n f b a m.toNat 1 0).1,pre ++ nH c b ((oZ l n f b a m.toNat 1 0).2:Nat) m n f l pre.length 2 2 2):=by
 obtain ⟨code,hbody,hr⟩:=Sm (fun _ _ _=>.none) c 7 (piL pre.length (aV l).length).length b a m n f l hm hl hn hf hnv hfv hb ha
 have hw:=Sl (c:=c) (b:=b) (m:=m) (n:=n) (f:=f) (l:=l) (t:=t) (tn:=tn) (pre:=pre) (a:Int) (((oZ l n f b a m.toNat 1 0).2:Nat):Int) (oZ l n f b a m.toNat 1 0).1 ht htn
 have hre:reach (pre ++ nH c b (a:Nat) m n f l pre.length t 2 tn) aB (aA (cap6 pre.length)) [] = piL pre.length (aV l).length:=UN
 have hin:=Xf (c:=c) (b:=b) (a:=(a:Int)) (m:=m) (n:=n) (f:=f) (l:=l) (t:=t) (tb:=2) (tn:=tn) (pre:=pre) 7
 have hat:=fun k hk=>Qe (c:=c) (b:=b) (a:=(a:Int)) (m:=m) (n:=n) (f:=f) (l:=l) (t:=t) (tb:=2) (tn:=tn) (pre:=pre) (k:=k) hk
 have a0:=hat 0 (by omega)
 have a1:=hat 1 (by omega)
 have a2:=hat 2 (by omega)
 have a3:=hat 3 (by omega)
 have a4:=hat 4 (by omega)
 have a5:=hat 5 (by omega)
 rw [Nat.add_zero] at a0
 unfold nxO at hr
 generalize oZ l n f b a m.toNat 1 0 = r at *
 refine Ev1.of (l:=[.int .i64 r.1.1,.int .i64 r.1.2.1,.int .i64 r.1.2.2]) (out:=⟨.ret,[(6,.int .i64 r.1.1),(7,.int .i64 r.1.2.1),(8,.int .i64 r.1.2.2)],nH c b (r.2:Nat) m n f l 0 7 7 7⟩) Below.none Try.func89 hbody
  (show aG X 89 (pre ++ nH c b (a:Nat) m n f l pre.length t 2 tn) 0 (cap6 pre.length) = some (cap6 pre.length,[⟨[],[]⟩,⟨[],[]⟩,⟨[],[]⟩,⟨[],[]⟩,⟨[],[]⟩,⟨[],[]⟩]) from rfl) ?_ ?_ (.inr rfl) ?_ ?_
 ·rfl
 ·rw [hre]
  have e:bn (dH (pre ++ nH c b (a:Nat) m n f l pre.length t 2 tn) (piL pre.length (aV l).length)) (fun t=>t) (cap6 pre.length) = cap6 0:=by
   simp only [cap6,bn,ren,a0,a1,a2,a3,a4,a5]
  rw [e]
  have hx:=hin
  rw [show ((cap6 pre.length).length + 1) = 7 from rfl,hx]
  exact hr
 ·rfl
 ·rw [hre]
  exact hw
end
end Go.Proofs.Ytcllinmgllmpmaa
namespace Go.Proofs.Ytcllinmgllmpmaa
open Go.AM
theorem Lh (l:List Int) (hl:l.length≤320) (hf:fine l = true) (i:Nat) (hi:0 < i) (c':Int):∀ (todo pre cs:List Int),l = pre ++ todo→cs.length = todo.length →
  (∀ j,j < todo.length→cs.getD j 0 = code l (pre.length + j)) →
  jF i c' todo cs pre.length = if fst (ct l) i + ct pre i≤c' then ((dJ i todo pre.length)[(c' - fst (ct l) i - ct pre i).toNat]?).map Int.toNat else none
 | [],pre,cs,e,hc,hx=>by simp [jF,dJ]
 | x :: r,pre,[],e,hc,hx=>by simp at hc
 | x :: r,pre,y :: cs,e,hc,hx=>by
  have hat:l.getD pre.length 0 = x:=by rw [e];simp
  have htk:l.take pre.length = pre:=by rw [e];simp
  have hy:y = code l pre.length:=by
   have:=hx 0 (by simp)
   simpa using this
  have ea:ct (pre ++ [x]) i = ct pre i + if x = (i:Int) then 1 else 0:=by
   unfold ct;rw [List.count_append,List.count_cons];by_cases q:x = (i:Int) <;> simp [q]
  have ih:=Lh l hl hf i hi c' r (pre ++ [x]) cs (by simp [e]) (by simpa using hc) (fun j hj=>by
   have:=hx (j + 1) (by simpa using hj)
   rw [List.getD_cons_succ] at this
   rw [this]
   congr 1
   simp only [List.length_append,List.length_cons,List.length_nil];omega)
  rw [show (pre ++ [x]).length = pre.length + 1 by simp,ea] at ih
  unfold jF dJ
  by_cases hxi:x = (i:Int)
  ·have hyv:y = fst (ct l) i + ct pre i:=by
    rw [hy]
    simp only [code,hat,htk]
    rw [if_pos (by omega),hxi]
    rfl
   rw [if_pos hxi]
   by_cases hyc:y = c'
   ·rw [if_pos ⟨hxi,hyc⟩,if_pos (by omega),show (c' - fst (ct l) i - ct pre i).toNat = 0 by omega]
    simp
   ·rw [if_neg (fun z=>hyc z.2),ih,if_pos hxi]
    by_cases hle:fst (ct l) i + ct pre i≤c'
    ·rw [if_pos hle,if_pos (by omega),show (c' - fst (ct l) i - ct pre i).toNat = (c' - fst (ct l) i - (ct pre i + 1)).toNat + 1 by omega,List.getElem?_cons_succ]
    ·rw [if_neg hle,if_neg (by omega)]
  ·rw [if_neg (fun z=>hxi z.1),ih,if_neg hxi,if_neg hxi]
   simp
theorem vZ:∀ (l:List Int) (x:Int) (k j:Nat) (z:Int),(dJ x l k)[j]? = some z→0≤z
 | [],x,k,j,z,h=>by simp [dJ] at h
 | y :: r,x,k,j,z,h=>by
  unfold dJ at h
  split at h
  ·cases j with
   | zero=>simp at h;omega
   | succ j=>exact vZ r x (k + 1) j z (by simpa using h)
  ·exact vZ r x (k + 1) j z h
theorem Jg (l n f:List Int) (b:List UInt8) (a:Nat) (hl:l.length≤320) (hf:fine l = true) (hn:∀ i:Nat,i < 16→n.getD i 0 = ct l i) (hfi:∀ i:Nat,i < 16→f.getD i 0 = fst (ct l) i):∀ (k i:Nat) (code:Int),0 < i→i + k≤16 →
  (oZ l n f b a k i code).1 = Oz l (nR l) b a k i code
 | 0,i,code,_,_=>rfl
 | k + 1,i,code,hi,hik=>by
  have hfj:=Lh l hl hf i hi (2 * code + iU b (a + i - 1)) l [] (nR l) rfl (yJ l) (fun j hj=>by rw [Ho hl hf j hj];simp)
  simp only [List.length_nil] at hfj
  have hc0:ct [] i = 0:=rfl
  rw [hc0] at hfj
  have hps:((dJ i l 0).length:Int) = ct l i:=by rw [wo];rfl
  unfold oZ Oz
  rw [hn i (by omega),hfi i (by omega)]
  by_cases hs:8 * b.length≤a + i - 1
  ·have hs2:8 * (b.length:Int) - (i:Int) < a:=by omega
   rw [if_pos hs,if_pos hs2]
  ·have hs2:¬ 8 * (b.length:Int) - (i:Int) < a:=by omega
   rw [if_neg hs,if_neg hs2,hfj]
   generalize 2 * code + iU b (a + i - 1) = c' at *
   by_cases h0:fst (ct l) i + 0≤c'
   ·rw [if_pos h0,show (c' - fst (ct l) i - 0).toNat = (c' - fst (ct l) i).toNat by omega]
    by_cases h1:c' - fst (ct l) i < ct l i
    ·rw [if_pos ⟨by omega,h1⟩]
     obtain ⟨z,hz⟩:∃ z,(dJ i l 0)[(c' - fst (ct l) i).toNat]? = some z:=⟨_,List.getElem?_eq_getElem (by omega)⟩
     have hz0:=vZ _ _ _ _ _ hz
     rw [List.getD_eq_getElem?_getD,hz]
     simp only [Option.map_some,Option.getD_some]
     rw [show ((z.toNat:Nat):Int) = z by omega]
    ·rw [if_neg (fun z=>h1 z.2),List.getElem?_eq_none (by omega)]
     exact Jg l n f b a hl hf hn hfi k (i + 1) c' (by omega) (by omega)
   ·rw [if_neg h0,if_neg (fun z=>h0 (by omega))]
    exact Jg l n f b a hl hf hn hfi k (i + 1) c' (by omega) (by omega)
end Go.Proofs.Ytcllinmgllmpmaa
namespace Go.Proofs.Ytcllinmgllmpmaa
open Go.AM
end Go.Proofs.Ytcllinmgllmpmaa
namespace Go.Proofs.Ytcllinmgllmpmaa
open Go.AM
def BA (l:List Int) (b:List UInt8) (a:Int):Int × Int × Int :=
 if (jK l).2 = 0 then (if a < 0 then (0,0,2) else (oZ l (bf l).1 (dW (bf l).1) b a.toNat (mxL 0 l).toNat 1 0).1) else (0,0,(jK l).2)
theorem Sr (c c2:Nat) (l:List Int) (b:List UInt8) (a:Int) (h63:l.length < 9223372036854775808) (hb:b.length≤100000) (ha:a < 9223372036854775808):∃ code,Try.f85.body = some code∧∃ H,
  Run X (evT X) 85 0 code [(0,.ro c (.pi .i64 l) 1),(1,.ro c2 (.pb b) 2),(2,.int .i64 a)] []
   ⟨.ret,[(6,.int .i64 (BA l b a).1),(7,.int .i64 (BA l b a).2.1),(8,.int .i64 (BA l b a).2.2)],H⟩:=by
 refine ⟨_,rfl,?_⟩
 have hCk:=dX (zS _ _ _ _ (Eu (H:=[]) (a:=.ro c (.pi .i64 l) 1) (l:=l) rfl h63))
 unfold ckV at hCk
 unfold BA
 by_cases he:(jK l).2 = 0
 ·rw [if_pos he]
  by_cases h0:a < 0
  ·rw [if_pos h0]
   refine ⟨[],0,?_⟩
   simp (maxSteps:=2000000) -implicitDefEqProofs [-getElem?_pos,go_sem,eqV,ah,hCk,he,h0]
  ·rw [if_neg h0]
   have hrc:=he
   rw [Ew] at hrc
   obtain ⟨hl,hf⟩:=o9 hrc
   have hRd:=dX (Sv c c2 l b a hl hf)
   have hmx:=BD l 0 (by omega) (by omega) hf
   have hfl:(dW (bf l).1).length = 17:=by unfold dW;rw [kY];rfl
   have hNx:=dX (Xe (c:=c2) (b:=b) (m:=mxL 0 l) (n:=(bf l).1) (f:=dW (bf l).1) (l:=l) (t:=0) (tn:=0) (pre:=[]) a.toNat hmx hl (jT l) hfl (fun i hi=>uJ hl hf i hi)
    (fun i hi=>by
     rw [yK hl hf i (by omega)]
     have hbd:=qA (ct l) (fun j=>⟨lG l j,by have:=Dj l j;omega⟩) i
     have hp:(2:Int) ^ i≤2 ^ 15:=by
      have:=Nat.pow_le_pow_right (n:=2) (by omega) (show i≤15 by omega)
      exact_mod_cast this
     omega) hb (by omega) (.inl rfl) (.inl rfl))
   rw [show ((a.toNat:Nat):Int) = a by omega] at hNx
   simp only [List.nil_append,List.length_nil,cap6,Nat.zero_add] at hNx
   generalize oZ l (bf l).1 (dW (bf l).1) b a.toNat (mxL 0 l).toNat 1 0 = r at hNx ⊢
   unfold t3 at hNx
   refine ⟨nH c2 b (r.2:Nat) (mxL 0 l) (bf l).1 (dW (bf l).1) l 0 2 2 2,0,?_⟩
   simp (maxSteps:=2000000) -implicitDefEqProofs [-getElem?_pos,go_sem,eqV,ah,hCk,he,h0,hRd,hNx]
 ·rw [if_neg he]
  have heb:((jK l).2 != 0) = true:=by simpa using he
  refine ⟨[],0,?_⟩
  simp (maxSteps:=2000000) -implicitDefEqProofs [-getElem?_pos,go_sem,eqV,ah,hCk,he,heb]
theorem Sz (l:List Int) (b:List UInt8) (a:Int):BA l b a = sK l b a:=by
 unfold BA sK
 rw [Ew]
 by_cases he:(bC l).2 = 0
 ·rw [if_pos he,if_pos he]
  by_cases h0:a < 0
  ·rw [if_pos h0,if_pos h0]
  ·rw [if_neg h0,if_neg h0]
   obtain ⟨hl,hf⟩:=o9 he
   have hmx:=BD l 0 (by omega) (by omega) hf
   rw [← UO hl hf]
   exact Jg l _ _ b a.toNat hl hf (fun i hi=>uJ hl hf i hi) (fun i hi=>yK hl hf i (by omega)) _ 1 0 (by omega) (by omega)
 ·rw [if_neg he,if_neg he]
theorem Xg (c c2:Nat) (l:List Int) (b:List UInt8) (a:Int) (h63:l.length < 9223372036854775808) (hb:b.length≤100000) (ha:a < 9223372036854775808) :
  Ev1 X 85 [.ro c (.pi .i64 l) 1,.ro c2 (.pb b) 2,.int .i64 a] [] (t3 (sK l b a),[]):=by
 obtain ⟨code,hbo,H,hr⟩:=Sr c c2 l b a h63 hb ha
 rw [Sz] at hr
 exact Ev1.plain (l:=[.int .i64 (sK l b a).1,.int .i64 (sK l b a).2.1,.int .i64 (sK l b a).2.2]) (bU X) Try.func85 hbo rfl rfl (by simp [dG]) hr (.inr rfl) rfl rfl rfl
end Go.Proofs.Ytcllinmgllmpmaa
namespace Go.Proofs.Ytcllinmgllmpmaa
open Go.AM
section
variable {c:Nat} {b:List UInt8} {mo:Int} {t:Nat} {H:AM.Heap} {o:Nat} {oa:Option Nat} {s:Is}
theorem BF {α:Type} {f n:Nat} {fn:Func} {code:Code} {xs ys:List AV} {m:PM α} {d:α} {v:α→List AV} (hF:X.P.funcs[f]? = some fn) (hb:fn.body = some code) (hrw:X.rw f 0 = false) (h:IrV c b mo t H o oa s)
  (hA:∀ π K,π.map Prod.fst = o :: oa.toList→fK X f H π K 1 xs ys) (hi:aA ys = []) (hn:xs.length + 2 = n) (hng:n < dG) (hv:∀ a,aA (v a) = []∧aU (v a) = []∧eU (v a) = true)
  (run:∀ mm E oa1,IrV c b mo n E 0 oa1 s→∃ code,fn.body = some code∧aj (kE fun fr E'=>∃ s' oa' a,aP X fr E' fn.results.toList = some (v a)∧IrV c b mo n E' 0 oa' s'∧(∀ x,oa1 = some x→oa' = some x)∧cO b mo m d s s' a)
   X (evT X) f mm code (numbered 0 (coerce X (.ptr 0 0 0 0 :: ys) (aJ X f))) E) :
  ∃ H' oa' s' a,evT X f (.ptr o 0 0 0 :: xs) H = some (aO (v a),H')∧IrV c b mo t H' o oa' s'∧cO b mo m d s s' a∧Kpt H H' o oa oa':=by
 obtain ⟨H',oa',s',l,hE,hV,⟨a,rfl,hQ⟩,h1,h2,h3,h4⟩:=Qg (Q:=fun s' l _=>∃ a,l = v a∧cO b mo m d s s' a) hF hb hrw h hA hi hn hng (by
  intro mm E hE
  obtain ⟨pq,hc2,ht⟩:=run mm E _ hE
  rw [hb] at hc2
  obtain rfl:=Option.some.inj hc2
  refine ht.mono fun o ho=>⟨ho.1,?_⟩
  obtain ⟨s',oa',a,q1,q2,q3,q4⟩:=ho.2
  obtain ⟨v1,v2,v3⟩:=hv a
  exact ⟨s',oa',v a,q1,v1,v2,v3,q2,fun h=>(by cases oa with
   | none=>exact absurd rfl h
   | some x=>exact q3 1 rfl),a,rfl,q4⟩)
 exact ⟨H',oa',s',a,hE,hV,hQ,⟨h1,h2,h3,h4⟩⟩
theorem Jh {y:UInt8} (h:IrV c b mo t H o oa s) (hs:fM b mo s) (hm:mo≤1000000):∃ H' oa' s',evT X 64 [.ptr o 0 0 0,.int .u8 (y.toNat:Nat)] H = some (.tup [],H')∧IrV c b mo t H' o oa' s'∧cO b mo (qj mo y) () s s' ()∧Kpt H H' o oa oa':=by
 obtain ⟨code,hc⟩:∃ code,Try.f64.body = some code:=⟨_,rfl⟩
 obtain ⟨H',oa',s',a,h1,h2,h3,h4⟩:=BF (f:=64) (n:=3) (xs:=[.int .u8 (y.toNat:Nat)]) (ys:=[.int .u8 (y.toNat:Nat)]) (m:=qj mo y) (d:=()) (v:=fun _=>[]) Try.func64 hc rfl h (fun π K _=>fK.flat rfl rfl fK.nil) rfl rfl (by simp [dG]) (fun _=>⟨rfl,rfl,rfl⟩) (by
  intro mm E oa1 hE
  obtain ⟨code,hc,ht⟩:=SA (m:=mm) (y:=y) hE hs hm
  refine ⟨code,hc,?_⟩
  rw [aaY]
  refine ht.mono fun o ho=>⟨ho.1,?_⟩
  obtain ⟨s',oa',q1,q2,q3⟩:=ho.2
  exact ⟨s',oa',(),rfl,q1,q2,q3⟩)
 exact ⟨H',oa',s',h1,h2,h3,h4⟩
theorem iZ {n:Nat} {I:Int} (hI:I = (n:Nat)) (h:IrV c b mo t H o oa s) (hs:fM b mo s) (hb:b.length≤100000) (hn:n≤16):∃ H' oa' s' a,evT X 34 [.ptr o 0 0 0,.int .i64 I] H = some (.int .i64 a,H')∧IrV c b mo t H' o oa' s'∧cO b mo (fO b n) 0 s s' a∧Kpt H H' o oa oa':=by
 subst hI
 obtain ⟨code,hc⟩:∃ code,Try.f34.body = some code:=⟨_,rfl⟩
 exact BF (f:=34) (n:=3) (xs:=[.int .i64 (n:Nat)]) (ys:=[.int .i64 (n:Nat)]) (m:=fO b n) (d:=0) (v:=fun a=>[.int .i64 a]) Try.func34 hc rfl h (fun π K _=>fK.flat rfl rfl fK.nil) rfl rfl (by simp [dG]) (fun _=>⟨rfl,rfl,rfl⟩) (by
  intro mm E oa1 hE
  obtain ⟨code,hc,ht⟩:=OA (m:=mm) hE hs hb hn
  refine ⟨code,hc,?_⟩
  rw [aaZ]
  exact ht)
theorem evL {f:Nat} {args ls:List AV} {H:AM.Heap} {v:AV} {N:AM.Heap} (h:Ev1 X f ls [] (v,N)) (hl:∃ xs,aG X f H 0 args = some (ls,xs)) (hi:aA ls = []) (hcv:wu v = true) (hcN:qP N = true) :
  evT X f args H = some (dh H.length v,H ++ kG H.length N):=by
 obtain ⟨xs,hl⟩:=hl
 exact dX (Ev1.Ze h hl hi hcv hcN)
theorem Zf {a a2:AV} {l:List Int} (h:dP H a = some (.pi .i64 l)) (h2:dP H a2 = some (.pb b)) {x:Int} (h63:l.length < 9223372036854775808) (hb:b.length≤100000) (hx:x < 9223372036854775808):evT X 85 [a,a2,.int .i64 x] H = some (t3 (sK l b x),H):=by
 have hx3:=lH (C:=X) (f:=85) (i:=2) (a:=.int .i64 x) (H:=H) rfl rfl (fF 3)
 obtain ⟨c2,x2,hx2⟩:=fV (C:=X) (f:=85) (i:=1) rfl h2 hx3
 obtain ⟨c,x1,hx1⟩:=fV (C:=X) (f:=85) (i:=0) rfl h hx2
 have:=evL (Xg c c2 l b x h63 hb hx) ⟨_,hx1⟩ rfl rfl rfl
 simpa [t3,dh,ren,bn,kG] using this
theorem Ji {a:AV} {l:List Int} (h:dP H a = some (.pi .i64 l)) (h63:l.length < 9223372036854775808):evT X 67 [a] H = some (.tup [.bool (bC l).1,.int .i64 (bC l).2],H):=by
 have:=dX (zS _ _ _ _ (Eu h h63))
 unfold ckV at this
 rwa [Ew] at this
theorem Qh (l codes:List Int) (b:List UInt8) (a:Nat) (o:List UInt8):∀ (f i:Nat) (x:Int),1≤i →
  (∃ j n:Nat,Oz l codes b a f i x = ((j:Int),(n:Int),0)∧decP b l codes f i x (a + i - 1) o = .ok j (a + n) o) ∨
  (∃ e:Int,e ≠ 0∧Oz l codes b a f i x = (0,0,e)∧decP b l codes f i x (a + i - 1) o = .err e)
 | 0,i,x,_=>.inr ⟨5,by simp,rfl,rfl⟩
 | f + 1,i,x,hi=>by
  unfold Oz decP dD wz
  by_cases hs:8 * b.length - (i:Int) < a
  ·rw [if_pos hs,if_neg (by omega)]
   exact .inr ⟨4,by simp,rfl,rfl⟩
  ·rw [if_neg hs,if_pos (by omega)]
   simp only
   cases hf:jF i (2 * x + iU b (a + i - 1)) l codes 0 with
   | some j=>exact .inl ⟨j,i,rfl,by simp only [mG];rw [show a + i - 1 + 1 = a + i by omega]⟩
   | none =>
    have:=Qh l codes b a o f (i + 1) (2 * x + iU b (a + i - 1)) (by omega)
    rw [show a + (i + 1) - 1 = a + i - 1 + 1 by omega] at this
    exact this
theorem UQ (l:List Int) (b:List UInt8) (k:Nat) (o:List UInt8) :
  (∃ j n:Nat,sK l b (k:Nat) = ((j:Int),(n:Int),0)∧uK b l k o = .ok j (k + n) o) ∨
  (∃ e:Int,e ≠ 0∧sK l b (k:Nat) = (0,0,e)∧uK b l k o = .err e):=by
 unfold sK uK
 by_cases he:(bC l).2 = 0
 ·rw [if_pos he,if_pos he,if_neg (by omega)]
  unfold aa0
  rw [Int.toNat_natCast]
  exact Qh l (iq l) b k o _ 1 0 (Nat.le_refl 1)
 ·rw [if_neg he,if_neg he]
  exact .inr ⟨_,he,rfl,rfl⟩
theorem Lj {m cl:Nat} {l:List Int} {E:AM.Heap} (h:IrV c b mo t E 0 oa s) (hs:fM b mo s) (hb:b.length≤100000) (hl:l.length < 9223372036854775808):∃ code,Try.f65.body = some code ∧
  aj (kE fun fr E'=>∃ s' oa',∃ a:Nat,aP X fr E' Try.f65.results.toList = some [.int .i64 (a:Nat)]∧IrV c b mo t E' 0 oa' s'∧(∀ x,oa = some x→oa' = some x)∧cO b mo (uK b l) 0 s s' a) X (evT X) 65 m code [(0,.ptr 0 0 0 0),(1,.ro cl (.pi .i64 l) 2)] E:=by
 refine ⟨_,rfl,?_⟩
 obtain ⟨⟨vo,τ1,τ,a1,a2,h0,ho⟩,hne⟩:=id h
 apply aj.seq
 ·(refine ⟨0,?_⟩;conv=>lhs;simp (maxSteps:=2000000) -implicitDefEqProofs [-getElem?_pos,go_sem,eqV,ah,ak])
 by_cases he:s.e = 0
 ·apply aj.seq
  ·simp only [bJ,he] at h0
   (refine ⟨0,?_⟩;conv=>lhs;simp (maxSteps:=2000000) -implicitDefEqProofs [-getElem?_pos,go_sem,eqV,ah,h0])
  have hR:=Zf (H:=E) (a:=.ro cl (.pi .i64 l) 2) (a2:=.ro c (.pb b) τ1) (l:=l) (b:=b) (x:=(s.k:Nat)) rfl rfl hl hb (by have:=hs.1;omega)
  have hup:=(zT l).up b mo s.k s.o
  rcases UQ l b s.k s.o with ⟨j,n,hr,hm⟩ | ⟨e,hne0,hr,hm⟩
  ·obtain ⟨u1,u2,_,_⟩:=hup _ _ _ hm hs.1
   rw [hr] at hR
   refine aj.of (o:=⟨.ret,[(4,.int .i64 (j:Nat))],AM.upd E 0 (some (bJ c b mo ⟨s.k + n,s.o,0⟩ vo τ1 τ))⟩) ?_ ⟨.inr rfl,⟨s.k + n,s.o,0⟩,oa,j,rfl,IrV.set hne a1 a2 h.lt.1 ho,fun a ha=>ha,cO.Qi ⟨u2,hs.2⟩ he hm⟩
   have w:IntKind.i64.wrap ((s.k:Int) + (n:Int)) = ((s.k + n:Nat):Int):=by rw [wrap_i64 (by omega) (by omega)];omega
   refine ⟨0,?_⟩
   simp only [bJ,he,t3] at h0 hR ⊢
   generalize s.k + n = k1 at *
   simp (maxSteps:=2000000) -implicitDefEqProofs [-getElem?_pos,go_sem,eqV,ah,h0,hR,w,ak]
  ·rw [hr] at hR
   have hV0:IrV c b mo t E 0 oa s:=h
   obtain ⟨E2,oa2,hE2,hV2,hk2⟩:=qQ (e:=e) h
   have hfs:gJ s e = { s with e:=e }:=by unfold gJ;rw [if_pos he]
   rw [hfs] at hV2
   obtain ⟨⟨vo2,τ3,τ4,b1,b2,h02,ho2⟩,hne2⟩:=id hV2
   refine aj.of (o:=⟨.ret,[(4,.int .i64 (0:Nat))],AM.upd E2 0 (some (bJ c b mo { s with e:=e } vo2 τ3 τ4))⟩) ?_ ⟨.inr rfl,{ s with e:=e },oa2,0,rfl,IrV.set hne2 b1 b2 hV2.lt.1 ho2,hk2.same,cO.Ey (e:=e) ⟨hs.1,hs.2⟩ he hm rfl hne0⟩
   have w:IntKind.i64.wrap ((s.k:Int) + 0) = ((s.k:Nat):Int):=by rw [wrap_i64 (by have:=hs.1;omega) (by have:=hs.1;omega)];omega
   have w2:IntKind.i64.wrap ((s.k:Nat):Int) = ((s.k:Nat):Int):=by rw [wrap_i64 (by have:=hs.1;omega) (by have:=hs.1;omega)]
   have heb:(e != 0) = true:=by simpa using hne0
   refine ⟨0,?_⟩
   simp only [bJ,he,t3] at h0 h02 hR ⊢
   simp (maxSteps:=2000000) -implicitDefEqProofs [-getElem?_pos,go_sem,eqV,ah,h0,h02,hR,hE2,heb,hne0,w,w2,ak]
 ·refine aj.of (o:=⟨.ret,[(4,.int .i64 (0:Nat))],E⟩) ?_ ⟨.inr rfl,s,oa,0,rfl,h,fun a ha=>ha,cO.stop hs he⟩
  have heb:(s.e != 0) = true:=by simpa using he
  refine ⟨0,?_⟩
  simp only [bJ] at h0
  simp (maxSteps:=2000000) -implicitDefEqProofs [-getElem?_pos,go_sem,eqV,ah,h0,he,heb,ak]
theorem BG {l:List Int} {a:AV} (h:IrV c b mo t H o oa s) (hs:fM b mo s) (hb:b.length≤100000) (ha:dP H a = some (.pi .i64 l)) (hd:∀ x ∈ slO a,x ≠ o∧∀ y,oa = some y→x ≠ y) (hl:l.length < 9223372036854775808):∃ H' oa' s',∃ j:Nat,evT X 65 [.ptr o 0 0 0,a] H = some (.int .i64 (j:Nat),H')∧IrV c b mo t H' o oa' s'∧cO b mo (uK b l) 0 s s' j∧Kpt H H' o oa oa':=by
 obtain ⟨code,hc⟩:∃ code,Try.f65.body = some code:=⟨_,rfl⟩
 refine BF (f:=65) (n:=3) (xs:=[a]) (ys:=[.ro (rC H a) (.pi .i64 l) 2]) (m:=uK b l) (d:=0) (v:=fun j:Nat=>[.int .i64 (j:Nat)]) Try.func65 hc rfl h (fun π K hπ=>fK.UR rfl ha rfl ?_ fK.nil) rfl rfl (by simp [dG]) (fun _=>⟨rfl,rfl,rfl⟩) ?_
 ·rw [hπ]
  refine iF.2 ?_
  intro x hx hx2
  obtain ⟨h1,h2⟩:=hd x hx
  rcases List.mem_cons.1 hx2 with h3 | h3
  ·exact h1 h3
  ·exact h2 x (by simpa using h3) rfl
 ·intro mm E oa1 hE
  obtain ⟨code,hc,ht⟩:=Lj (m:=mm) (cl:=rC H a) hE hs hb hl
  refine ⟨code,hc,?_⟩
  rw [aa1]
  exact ht
end
end Go.Proofs.Ytcllinmgllmpmaa
namespace Go.Proofs.Ytcllinmgllmpmaa
open Go.AM
theorem Xh {T e:Nat} {H:AM.Heap} (hT:und X T = .slice e) (hs:sizeT X e = 1) (hb:bG X e = 8) (hz:bM X e = true) {o g t:Nat} {ob:AM.Obj} {l:List Int} {y:Int}
  (ho:H[o]? = some (some ob)) (h:RwT (.pi .i64 l) g t ob) (hn:l.length≤10000000) :
  ∃ ob',RwT (.pi .i64 (l ++ [y])) (g + 1) t ob'∧dw X H T (.sl o 0 l.length g) (.ro 1 (.pi .i64 [y]) 0) = some (.sl o 0 (l.length + 1) (g + 1),upd H o (some ob')):=by
 have hlive:live H o g = some ob:=by simp [live,ho,h.g]
 have hroom:fP X e (l.length + 1) = true:=by simp [fP,hb];omega
 have hj:eX t 0 = some t:=by
  unfold eX
  by_cases h0:t = 0
  ·rw [if_pos h0,h0]
  ·rw [if_neg h0,if_pos (.inl rfl)]
 have hsrc:lV H (.ro 1 (.pi .i64 [y]) 0) = some (.pi .i64 [y],0):=by simp [lV,pI,rD]
 refine ⟨{ ob with p:=.pi .i64 (l ++ [y]),g:=g + 1,cap:=(match ob.cap with | some c=>if 0 + l.length + AM.ah (.pi .i64 [y])≤c then some (c - 0) else none | none=>none),z:=(if AM.ah ob.p = 0 then ob.z else 1),tg:=t },⟨rfl,rfl,h.row,h.ids,rfl⟩,?_⟩
 unfold dw
 simp only [hT,hs,hz,hsrc,hlive,h.row,h.ids,h.p,h.tg]
 simp only [show ¬ ((1:Nat) = 0∨true = false) by simp,if_false]
 have hc:True∧True∧0 + l.length = AM.ah (.pi .i64 l)∧aN (.pi .i64 l) = 1∧fP X e (l.length + AM.ah (.pi .i64 [y])) = true:=⟨trivial,trivial,by simp [AM.ah],rfl,by simpa [AM.ah] using hroom⟩
 rw [if_pos hc]
 simp only [jd,Nat.zero_add,Nat.le_refl,if_true,List.drop_zero,List.take_length,rE,hj,aN]
 simp [AM.ah]
 rfl
def LsV (t:Nat) (H:AM.Heap) (la:Option Nat) (lv:AV) (l:List Int):Prop:=match la with
 | none=>l = []∧∃ τ,(τ = 0∨τ = t)∧lv = .ro 0 .pn τ
 | some a=>∃ g τ ob,(τ = 0∨τ = t)∧lv = .sl a 0 l.length g∧H[a]? = some (some ob)∧RwT (.pi .i64 l) g τ ob
def bxO (v:AV) (τ:Nat):AM.Obj:=⟨.pc [v],0,some 1,1,false,true,τ⟩
structure AgV (c:Nat) (b:List UInt8) (mo n:Int) (t:Nat) (H:AM.Heap) (lb nb rb o:Nat) (la oa:Option Nat) (acc:List Int) (s:Is):Prop where
 l:∃ lv τ,(τ = 0∨τ = t)∧H[lb]? = some (some (bxO lv τ))∧LsV t H la lv acc
 n:∃ τ,(τ = 0∨τ = t)∧H[nb]? = some (some (bxO (.int .i64 n) τ))
 r:∃ τ,(τ = 0∨τ = t)∧H[rb]? = some (some (bxO (.ptr o 0 0 0) τ))
 d:IrV c b mo t H o oa s
 nd:([lb,nb,rb,o] ++ la.toList ++ oa.toList).Nodup
structure AgS (c:Nat) (b:List UInt8) (mo n:Int) (S:List AM.Obj) (lb nb rb o:Nat) (la oa:Option Nat) (acc:List Int) (s:Is):Prop where
 l:S[lb]? = some (bxO (match la with | none=>.ro 0 .pn 0 | some a=>.sl a 0 acc.length 0) 0)
 pl:match la with | none=>acc = [] | some a=>S[a]? = some ⟨.pi .i64 acc,0,none,0,true,false,0⟩
 n:S[nb]? = some (bxO (.int .i64 n) 0)
 r:S[rb]? = some (bxO (.ptr o 0 0 0) 0)
 d:S[o]? = some (bJ c b mo s (match oa with | none=>.ro 0 .pn 0 | some a=>.sl a 0 s.o.length 0) 0 0)
 po:match oa with | none=>s.o = [] | some a=>S[a]? = some ⟨.pb s.o,0,none,0,true,false,0⟩
 nd:([lb,nb,rb,o] ++ la.toList ++ oa.toList).Nodup
section
variable {c:Nat} {b:List UInt8} {mo n:Int} {t:Nat} {H:AM.Heap} {lb nb rb o:Nat} {la oa:Option Nat} {acc:List Int} {s:Is} {π:List (Nat × Nat)} {S:List AM.Obj}
theorem Img.bx1 (h:Img t H π S) {k:Nat} {v:AV} (hk:S[k]? = some (bxO v 0)):π[k]? = some (sg π k,0)∧∃ x τ,(τ = 0∨τ = t)∧H[sg π k]? = some (some (bxO x τ))∧ren idN tz x = ren (eP π) tz v∧∀ u ∈ tags x,u = 0∨u = t:=by
 obtain ⟨o,g,ob,h1,h2,h3⟩:=h.ob k _ hk
 obtain ⟨rfl,p,τ,rfl,hτ,hp,ht⟩:=Like.box h3
 have hs:=jw h1
 rw [hs]
 simp only [ren,bn] at hp
 obtain ⟨l1,rfl,k1⟩:=yL hp
 obtain ⟨x,l2,rfl,e1,k2⟩:=fZ k1
 obtain rfl:=ql k2
 exact ⟨h1,x,τ,hτ,h2,e1,fun u hu=>ht u (by simpa [tags,aU] using hu)⟩
theorem UU (h:Img t H π S) {l:List Nat} (hn:l.Nodup) (hl:∀ x ∈ l,x < S.length):(l.map (sg π)).Nodup:=by
 rw [List.nodup_iff_pairwise_ne,List.pairwise_map]
 refine List.Pairwise.imp_of_mem ?_ (List.nodup_iff_pairwise_ne.1 hn)
 intro a b ha hb hne e
 exact hne (h.Jj (hl a ha) (hl b hb) e)
theorem AgV.nS (h:Img t H π S) (hs:AgS c b mo n S lb nb rb o la oa acc s):AgV c b mo n t H (sg π lb) (sg π nb) (sg π rb) (sg π o) (la.map (sg π)) (oa.map (sg π)) acc s:=by
 have hlt:∀ {k:Nat} {x:AM.Obj},S[k]? = some x→k < S.length:=fun h=>eY h
 have hnd:(([lb,nb,rb,o] ++ la.toList ++ oa.toList).map (sg π)).Nodup:=by
  refine UU h hs.nd ?_
  intro x hx
  simp only [List.mem_append,List.mem_cons,List.not_mem_nil,or_false] at hx
  rcases hx with ((rfl | rfl | rfl | rfl) | hx) | hx
  ·exact hlt hs.l
  ·exact hlt hs.n
  ·exact hlt hs.r
  ·exact hlt hs.d
  ·cases la with
   | none=>simp at hx
   | some a=>simp at hx;subst hx;exact hlt hs.pl
  ·cases oa with
   | none=>simp at hx
   | some a=>simp at hx;subst hx;exact hlt hs.po
 have aa2:([sg π lb,sg π nb,sg π rb,sg π o] ++ (la.map (sg π)).toList ++ (oa.map (sg π)).toList).Nodup:=by
  cases la <;> cases oa <;> simpa using hnd
 refine ⟨?_,?_,?_,⟨?_,?_⟩,aa2⟩
 ·obtain ⟨_,x,τ,hτ,hb,hx,ht⟩:=Img.bx1 h hs.l
  refine ⟨x,τ,hτ,hb,?_⟩
  have hla:=hs.pl
  cases la with
  | none =>
   simp only [ren] at hx
   obtain ⟨τ2,rfl⟩:=yM hx
   exact ⟨hla,τ2,ht τ2 (by simp [tags]),rfl⟩
  | some a =>
   obtain ⟨o2,g2,ob,p1,p2,p3⟩:=h.ob a _ hla
   simp only [ren,eP,p1] at hx
   obtain rfl:=Ez hx
   obtain ⟨q1,q2⟩:=Like.row' p3 rfl
   exact ⟨g2,ob.tg,ob,q2,by rw [jw p1],by rw [jw p1];exact p2,q1⟩
 ·obtain ⟨_,x,τ,hτ,hb,hx,ht⟩:=Img.bx1 h hs.n
  simp only [ren] at hx
  obtain rfl:=rU hx
  exact ⟨τ,hτ,hb⟩
 ·obtain ⟨_,x,τ,hτ,hb,hx,ht⟩:=Img.bx1 h hs.r
  obtain ⟨o2,g2,ob,p1,p2,p3⟩:=h.ob o _ hs.d
  have hg:=(p3.bx rfl).2.2
  subst hg
  simp only [ren,eP,p1] at hx
  obtain rfl:=Xi hx
  exact ⟨τ,hτ,by rw [jw p1];exact hb⟩
 ·obtain ⟨o2,g2,ob,p1,p2,p3⟩:=h.ob o _ hs.d
  rw [jw p1]
  obtain ⟨rfl,p,τ,rfl,hτ,hp,ht⟩:=Like.box p3
  simp only [ren,bn] at hp
  obtain ⟨l1,rfl,k1⟩:=yL hp
  obtain ⟨x1,l2,rfl,e1,k2⟩:=fZ k1
  obtain ⟨x2,l3,rfl,e2,k3⟩:=fZ k2
  obtain ⟨x3,l4,rfl,e3,k4⟩:=fZ k3
  obtain ⟨x4,l5,rfl,e4,k5⟩:=fZ k4
  obtain ⟨x5,l6,rfl,e5,k6⟩:=fZ k5
  obtain rfl:=ql k6
  obtain ⟨τ1,rfl⟩:=yM e1
  obtain rfl:=rU e2
  obtain rfl:=rU e4
  obtain rfl:=rU e5
  have hτ1:τ1 = 0∨τ1 = t:=ht τ1 (by simp [tags,aU])
  refine ⟨x3,τ1,τ,hτ1,hτ,p2,?_⟩
  have hoa:=hs.po
  cases oa with
  | none =>
   simp only [ren] at e3
   obtain ⟨τ2,rfl⟩:=yM e3
   exact ⟨hoa,τ2,ht τ2 (by simp [tags,aU]),rfl⟩
  | some a =>
   obtain ⟨o3,g3,ob3,r1,r2,r3⟩:=h.ob a _ hoa
   simp only [ren,eP,r1] at e3
   obtain rfl:=Ez e3
   obtain ⟨q1,q2⟩:=Like.row' r3 rfl
   exact ⟨g3,ob3.tg,ob3,q2,by rw [jw r1],by rw [jw r1];exact r2,q1⟩
 ·intro a ha
  cases oa with
  | none=>cases ha
  | some a' =>
   simp only [Option.map_some,Option.some.injEq] at ha
   subst ha
   intro e
   have:=h.Jj (hlt hs.po) (hlt hs.d) e
   subst this
   have hn:=hs.nd
   cases la <;> simp at hn
end
end Go.Proofs.Ytcllinmgllmpmaa
namespace Go.Proofs.Ytcllinmgllmpmaa
open Go.AM
def agR (n:Int) (acc:List Int) (x:Int) (k:Nat) (s:Is):List Int × Is:=if n < (acc.length + k:Nat) then (acc,gJ s 5) else (acc ++ List.replicate k x,s)
section
variable {c:Nat} {b:List UInt8} {mo n:Int} {t:Nat} {H:AM.Heap} {lb nb rb o:Nat} {la oa:Option Nat} {acc:List Int} {s:Is}
theorem AgV.ne (h:AgV c b mo n t H lb nb rb o la oa acc s):lb ≠ nb∧lb ≠ rb∧lb ≠ o∧nb ≠ rb∧nb ≠ o∧rb ≠ o∧(∀ a,la = some a→lb ≠ a∧nb ≠ a∧rb ≠ a∧o ≠ a∧∀ x,oa = some x→a ≠ x)∧(∀ a,oa = some a→lb ≠ a∧nb ≠ a∧rb ≠ a∧o ≠ a):=by
 have hn:=h.nd
 refine ⟨?_,?_,?_,?_,?_,?_,?_,?_⟩
 ·intro e;subst e;simp at hn
 ·intro e;subst e;simp at hn
 ·intro e;subst e;simp at hn
 ·intro e;subst e;simp at hn
 ·intro e;subst e;simp at hn
 ·intro e;subst e;simp at hn
 ·intro a ha
  subst ha
  refine ⟨?_,?_,?_,?_,?_⟩
  ·intro e;subst e;simp at hn
  ·intro e;subst e;simp at hn
  ·intro e;subst e;simp at hn
  ·intro e;subst e;simp at hn
  ·intro x hx e
   subst hx e
   simp at hn
 ·intro a ha
  subst ha
  refine ⟨?_,?_,?_,?_⟩
  ·intro e;subst e;simp at hn
  ·intro e;subst e;simp at hn
  ·intro e;subst e;simp at hn
  ·intro e;subst e;simp at hn
theorem LsV.at' {lv:AV} (h:LsV t H la lv acc):∀ a,la = some a→a < H.length:=by
 intro a ha
 subst ha
 obtain ⟨g,τ,ob,_,_,h3,_⟩:=h
 exact eY h3
theorem LsV.keep {H':AM.Heap} {lv:AV} (h:LsV t H la lv acc) (hk:∀ a,la = some a→H'[a]? = H[a]?):LsV t H' la lv acc:=by
 cases la with
 | none=>exact h
 | some a =>
  obtain ⟨g,τ,ob,h1,h2,h3,h4⟩:=h
  exact ⟨g,τ,ob,h1,h2,by rw [hk a rfl];exact h3,h4⟩
theorem AgV.lt (h:AgV c b mo n t H lb nb rb o la oa acc s):lb < H.length∧nb < H.length∧rb < H.length∧o < H.length∧(∀ a,la = some a→a < H.length)∧(∀ a,oa = some a→a < H.length):=by
 obtain ⟨lv,τ,_,hb,hl⟩:=h.l
 obtain ⟨τ2,_,hb2⟩:=h.n
 obtain ⟨τ3,_,hb3⟩:=h.r
 exact ⟨eY hb,eY hb2,eY hb3,h.d.lt.1,hl.at',h.d.lt.2⟩
theorem AgV.reader {H':AM.Heap} {oa':Option Nat} {s':Is} (h:AgV c b mo n t H lb nb rb o la oa acc s) (hV:IrV c b mo t H' o oa' s') (hk:Kpt H H' o oa oa'):AgV c b mo n t H' lb nb rb o la oa' acc s':=by
 obtain ⟨n1,n2,n3,n4,n5,n6,n7,n8⟩:=h.ne
 obtain ⟨l1,l2,l3,l4,l5,l6⟩:=h.lt
 have k1:=hk.rest lb l1 n3 (fun a ha=>(n8 a ha).1)
 have k2:=hk.rest nb l2 n5 (fun a ha=>(n8 a ha).2.1)
 have k3:=hk.rest rb l3 n6 (fun a ha=>(n8 a ha).2.2.1)
 have k4:∀ a,la = some a→H'[a]? = H[a]?:=fun a ha=>hk.rest a (l5 a ha) (Ne.symm (n7 a ha).2.2.2.1) (fun x hx=>(n7 a ha).2.2.2.2 x hx)
 refine ⟨?_,?_,?_,hV,?_⟩
 ·obtain ⟨lv,τ,h1,h2,h3⟩:=h.l
  exact ⟨lv,τ,h1,by rw [k1];exact h2,h3.keep k4⟩
 ·obtain ⟨τ,h1,h2⟩:=h.n
  exact ⟨τ,h1,by rw [k2];exact h2⟩
 ·obtain ⟨τ,h1,h2⟩:=h.r
  exact ⟨τ,h1,by rw [k3];exact h2⟩
 ·cases ho:oa with
  | some a =>
   have:=hk.same a ho
   rw [this,← ho]
   exact h.nd
  | none =>
   cases ho':oa' with
   | none=>rw [← ho];exact h.nd
   | some a =>
    have hg:=hk.new a ho ho'
    have hn:=h.nd
    rw [ho] at hn
    simp only [Option.toList_none,List.append_nil] at hn
    rw [List.nodup_append]
    refine ⟨hn,by simp,?_⟩
    intro x hx y hy
    simp only [Option.toList_some,List.mem_singleton] at hy
    subst hy
    simp only [List.mem_append,List.mem_cons,List.not_mem_nil,or_false] at hx
    rcases hx with (rfl | rfl | rfl | rfl) | hx
    ·omega
    ·omega
    ·omega
    ·omega
    ·cases la with
     | none=>simp at hx
     | some z=>simp at hx;subst hx;have:=l5 _ rfl;omega
theorem LsV.app {lv:AV} (y:Int) (h:LsV t H la lv acc) (hl:acc.length≤1000000):∃ lv' H' la',dw X H 56 lv (.ro 1 (.pi .i64 [y]) 0) = some (lv',H')∧LsV t H' la' lv' (acc ++ [y])∧(∀ a,la = some a→la' = some a)∧(la = none→la' = some H.length)∧H.length≤H'.length ∧
  (∀ j,j < H.length→(∀ a,la = some a→j ≠ a)→H'[j]? = H[j]?)∧∃ a g,lv' = .sl a 0 (acc ++ [y]).length g:=by
 cases la with
 | none =>
  obtain ⟨rfl,τ,hτ,rfl⟩:=h
  have hat:(H ++ [some (⟨.pi .i64 [y],0,none,0,true,false,0⟩:AM.Obj)])[H.length]? = some (some ⟨.pi .i64 [y],0,none,0,true,false,0⟩):=by simp
  refine ⟨.sl H.length 0 1 0,H ++ [some ⟨.pi .i64 [y],0,none,0,true,false,0⟩],some H.length,?_,⟨0,0,_,.inl rfl,rfl,hat,⟨rfl,rfl,rfl,rfl,rfl⟩⟩,fun a h=>(by cases h),fun _=>rfl,by simp,fun j hj _=>List.getElem?_append_left hj,_,_,rfl⟩
  simp only [dw,Hq,size3,SB]
  simp [lV,pI,ah,rD,fP,rE,bT,aN]
 | some a =>
  obtain ⟨g,τ,ob,hτ,rfl,ho,hw⟩:=h
  obtain ⟨ob',w1,w2⟩:=Xh (y:=y) (T:=56) (e:=3) Hq size3 bytes3 SB ho hw (by omega)
  refine ⟨_,_,some a,w2,⟨g + 1,τ,ob',hτ,by simp,setAt ho,w1⟩,fun a' h=>h,fun h=>(by cases h),by simp [AM.upd],fun j hj hja=>by unfold AM.upd;rw [List.getElem?_set_ne (Ne.symm (hja a rfl))],a,g + 1,by simp⟩
def yN (x:Int) (lb k i:Nat):AM.Frame:=[(0,.int .i64 x),(2,.ptr lb 0 0 0),(15,.int .i64 (k:Nat)),(16,.int .i64 (i:Nat))]
theorem aa3 {m k i:Nat} {x:Int} {d:Bool} {E:AM.Heap} (h:AgV c b mo n t E lb nb rb o la oa acc s) (hl:acc.length≤1000000):∃ E' la',AgV c b mo n t E' lb nb rb o la' oa (acc ++ [x]) s∧(∀ a,la = some a→la' = some a)∧(la = none→∀ a,la' = some a→E.length≤a)∧E.length≤E'.length ∧
  ∃ code,((Try.f86.body).bind (aI [1,1,0,0,1,1,0,0])) = some code∧Run X (evT X) 86 m code (yN x lb k i ++ [(17,.bool d)]) E ⟨.normal,yN x lb k i,E'⟩:=by
 obtain ⟨n1,n2,n3,n4,n5,n6,n7,n8⟩:=h.ne
 obtain ⟨l1,l2,l3,l4,l5,l6⟩:=h.lt
 obtain ⟨lv,τ,hτ,hb,hL⟩:=h.l
 obtain ⟨lv',E1,la',hA,hL',hm,hnw,hlen,hk,a,g,hlv⟩:=hL.app x hl
 have hb':E1[lb]? = some (some (bxO lv τ)):=by rw [hk lb l1 (fun a ha=>(n7 a ha).1)];exact hb
 have hla:∀ a,la' = some a→a ≠ lb:=by
  intro a ha e
  cases hq:la with
  | none=>rw [hnw hq] at ha;cases ha;omega
  | some z=>rw [hm z hq] at ha;cases ha;exact (n7 _ hq).1 e.symm
 have hrd:IrV c b mo t E1 o oa s:=h.d.keep (hk o l4 (fun a ha=>(n7 a ha).2.2.2.1)) fun a ha=>hk a (l6 a ha) (fun z hz=>Ne.symm ((n7 z hz).2.2.2.2 a ha))
 refine ⟨AM.upd E1 lb (some (bxO lv' τ)),la',⟨⟨lv',τ,hτ,setAt hb',hL'.keep fun a ha=>by unfold AM.upd;rw [List.getElem?_set_ne (Ne.symm (hla a ha))]⟩,?_,?_,hrd.other n3 (fun a ha=>(n8 a ha).1),?_⟩,hm,?_,by simp [AM.upd];exact hlen,_,rfl,?_⟩
 ·obtain ⟨τ2,h1,h2⟩:=h.n
  exact ⟨τ2,h1,wB (by rw [hk nb l2 (fun a ha=>(n7 a ha).2.1)];exact h2) n1⟩
 ·obtain ⟨τ2,h1,h2⟩:=h.r
  exact ⟨τ2,h1,wB (by rw [hk rb l3 (fun a ha=>(n7 a ha).2.2.1)];exact h2) n2⟩
 ·cases hq:la with
  | some z=>rw [hm z hq,← hq];exact h.nd
  | none =>
   rw [hnw hq]
   have hn:=h.nd
   rw [hq] at hn
   cases oa with
   | none=>simp at hn ⊢;omega
   | some z=>have:=l6 z rfl;simp at hn ⊢;omega
 ·intro h1 a ha
  rw [hnw h1] at ha
  cases ha
  exact Nat.le_refl _
 ·subst hlv
  have hbs:=bsI E x
  simp only [bxO] at hb hb' ⊢
  simp only [yN]
  generalize (acc ++ [x]).length = N at *
  (refine ⟨0,?_⟩;simp (maxSteps:=2000000) -implicitDefEqProofs [-getElem?_pos,go_sem,eqV,ah,hb,hb',hbs,hA])
theorem Xj {m k:Nat} {x:Int} {E:AM.Heap} (h:AgV c b mo n t E lb nb rb o la oa acc s) (hl:acc.length≤1000) (hk:k≤1000):∃ code,Try.f86.body = some code ∧
  aj (kE fun fr E'=>∃ la' acc' s',AgV c b mo n t E' lb nb rb o la' oa acc' s'∧(∀ a,la = some a→la' = some a)∧(la = none→∀ a,la' = some a→E.length≤a)∧(acc',s') = agR n acc x k s) X (evT X) 86 m code
   [(0,.int .i64 x),(1,.int .i64 (k:Nat)),(2,.ptr lb 0 0 0),(3,.ptr nb 0 0 0),(4,.ptr rb 0 0 0)] E:=by
 refine ⟨_,rfl,?_⟩
 obtain ⟨lv,τ,hτ,hb,hL⟩:=h.l
 obtain ⟨τ2,hτ2,hb2⟩:=h.n
 obtain ⟨τ3,hτ3,hb3⟩:=h.r
 have w:IntKind.i64.wrap ((acc.length:Int) + (k:Int)) = ((acc.length + k:Nat):Int):=by rw [wrap_i64 (by omega) (by omega)];omega
 have h0:∃ code,((Try.f86.body).bind (aI [0,0])) = some code∧Run X (evT X) 86 m code [(0,.int .i64 x),(1,.int .i64 (k:Nat)),(2,.ptr lb 0 0 0),(3,.ptr nb 0 0 0),(4,.ptr rb 0 0 0)] E
   ⟨.normal,[(0,.int .i64 x),(1,.int .i64 (k:Nat)),(2,.ptr lb 0 0 0),(4,.ptr rb 0 0 0),(12,.bool (decide (n < (acc.length + k:Nat))))],E⟩:=by
  refine ⟨_,rfl,?_⟩
  simp only [bxO] at hb hb2
  cases la with
  | none =>
   obtain ⟨h1,τ4,hτ4,rfl⟩:=hL
   rw [h1] at w ⊢
   simp only [List.length_nil,Nat.zero_add,Int.ofNat_zero,Int.zero_add] at w ⊢
   have w':IntKind.i64.wrap (0 + (k:Int)) = (k:Int):=by rw [wrap_i64 (by omega) (by omega)];omega
   (refine ⟨0,?_⟩;simp (maxSteps:=2000000) -implicitDefEqProofs [-getElem?_pos,go_sem,eqV,ah,hb,hb2,w,w'])
  | some a =>
   obtain ⟨g,τ4,ob,hτ4,rfl,h3,h4⟩:=hL
   have hg:=h4.g
   generalize acc.length + k = q at *
   generalize acc.length = N at *
   (refine ⟨0,?_⟩;simp (maxSteps:=2000000) -implicitDefEqProofs [-getElem?_pos,go_sem,eqV,ah,hb,hb2,h3,hg,w])
 apply aj.assoc
 apply aj.seq (piece h0 _ rfl)
 by_cases hc:n < ((acc.length + k:Nat):Int)
 ·obtain ⟨E1,q1,q2,q3⟩:=lI (e:=5) h.d
  refine ⟨⟨.ret,[],E1⟩,⟨.inr rfl,la,acc,gJ s 5,h.reader q2 q3,fun a ha=>ha,fun h1 a ha=>(by rw [h1] at ha;cases ha),by unfold agR;rw [if_pos hc]⟩,?_⟩
  have anD:=hb3
  simp only [bxO] at hb3
  rw [decide_eq_true hc]
  (refine ⟨0,?_⟩;simp (maxSteps:=2000000) -implicitDefEqProofs [-getElem?_pos,go_sem,eqV,ah,hb3,q1])
 ·apply aj.seq (fr':=[(0,.int .i64 x),(1,.int .i64 (k:Nat)),(2,.ptr lb 0 0 0),(4,.ptr rb 0 0 0),(12,.bool false)]) (H':=E)
  ·rw [decide_eq_false hc]
   exact Run.cond (d:=false) rfl ⟨0,rfl⟩
  apply aj.seq (fr':=yN x lb k 0) (H':=E)
  ·simp only [yN]
   (refine ⟨0,?_⟩;simp (maxSteps:=2000000) -implicitDefEqProofs [-getElem?_pos,go_sem,eqV,ah])
  refine aj.mono (Q:=Goes fun fr E'=>∃ la' acc' s',AgV c b mo n t E' lb nb rb o la' oa acc' s'∧(∀ a,la = some a→la' = some a)∧(la = none→∀ a,la' = some a→E.length≤a)∧(acc',s') = agR n acc x k s) ?_ fun o h=>⟨.inl h.1,h.2⟩
  apply aj.block
  refine aj.kF (I:=fun q fr E'=>∃ la' i,i≤k∧q = k - i∧fr = yN x lb k i∧AgV c b mo n t E' lb nb rb o la' oa (acc ++ List.replicate i x) s∧(∀ a,la = some a→la' = some a)∧(la = none→∀ a,la' = some a→E.length≤a)∧E.length≤E'.length) ?_ (k:=k) ⟨la,0,by omega,rfl,rfl,by simpa using h,fun a ha=>ha,fun h1 a ha=>(by rw [h1] at ha;cases ha),Nat.le_refl _⟩
  rintro q fr E' ⟨la',i,hi,rfl,rfl,hV,hm,hnw,hlen⟩
  by_cases hik:i = k
  ·subst hik
   refine aj.of (o:=⟨.exit 0,yN x lb i i ++ [(17,.bool false)],E'⟩) ?_ (.inr ⟨by simp,rfl,la',_,s,hV,hm,hnw,by unfold agR;rw [if_neg hc]⟩)
   simp only [yN]
   (refine ⟨0,?_⟩;simp (maxSteps:=2000000) -implicitDefEqProofs [-getElem?_pos,go_sem,eqV,ah])
  ·have jU:(i:Int) < (k:Int):=by omega
   obtain ⟨E2,la2,v1,v2,v3,v4,hr4⟩:=aa3 (m:=m) (k:=k) (i:=i) (x:=x) (d:=true) hV (by simp;omega)
   refine aj.of (o:=⟨.normal,yN x lb k (i + 1),E2⟩) ?_ (.inl ⟨rfl,k - (i + 1),by omega,la2,i + 1,by omega,rfl,rfl,?_,fun a ha=>v2 a (hm a ha),?_,Nat.le_trans hlen v4⟩)
   ·apply Run.seq (fr':=yN x lb k i ++ [(17,.bool true)]) (H':=E')
    ·simp only [yN]
     (refine ⟨0,?_⟩;simp (maxSteps:=2000000) -implicitDefEqProofs [-getElem?_pos,go_sem,eqV,ah,jU])
    apply Run.seq (fr':=yN x lb k i ++ [(17,.bool true)]) (H':=E')
    ·refine ⟨0,?_⟩
     simp only [yN]
     simp (maxSteps:=2000000) -implicitDefEqProofs [-getElem?_pos,go_sem,eqV,ah]
    apply Run.seq (fr':=yN x lb k i) (H':=E2)
    ·apply Run.block
     ·exact piece hr4 _ rfl
     ·simp
    ·have w1:IntKind.i64.wrap ((i:Int) + 1) = ((i + 1:Nat):Int):=by rw [wrap_i64 (by omega) (by omega)];omega
     simp only [yN]
     (refine ⟨0,?_⟩;simp (maxSteps:=2000000) -implicitDefEqProofs [-getElem?_pos,go_sem,eqV,ah,w1])
   ·rw [List.replicate_succ']
    rw [← List.append_assoc]
    exact v1
   ·intro h1 a ha
    cases hq:la' with
    | none=>have:=v3 hq a ha;omega
    | some z =>
     have:=v2 z hq
     rw [ha] at this
     cases this
     exact hnw h1 _ hq
end
end Go.Proofs.Ytcllinmgllmpmaa
namespace Go.Proofs.Ytcllinmgllmpmaa
open Go.AM
theorem BH {K k:Nat} (h:k < K):sg (pi0 K) k = k:=jw (by rw [qR,if_pos h])
section
variable {c:Nat} {b:List UInt8} {mo n:Int} {t:Nat} {H:AM.Heap} {lb nb rb o:Nat} {la oa:Option Nat} {acc:List Int} {s:Is}
theorem DU {S:List AM.Obj} {π:List (Nat × Nat)} {n0 r0 o0 k:Nat} {la0 oa0:Option Nat} {x:Int} (hI:Img t H π S) (hS:AgS c b mo n S 0 n0 r0 o0 la0 oa0 acc s) (hok:OkS S) (hR:reach (S.map some) aB [0,n0,r0] [] = List.range S.length) (hl:acc.length≤1000) (hk:k≤1000)
  (hx:∀ (E':AM.Heap) (la':Option Nat) (acc':List Int) (s':Is),AgV c b mo n 6 E' 0 n0 r0 o0 la' oa0 acc' s'→(∀ a,la0 = some a→la' = some a)→(la0 = none→∀ a,la' = some a→S.length≤a)→∃ π' S' la1,Img 6 E' π' S'∧OkS S'∧AgS c b mo n S' 0 n0 r0 o0 la1 oa0 acc' s'∧S.length≤S'.length ∧
   (∀ j:Nat,j < S.length→∃ g,π'[j]? = some (j,g))∧(∀ (j:Nat) (ob ob':AM.Obj),S[j]? = some ob→S'[j]? = some ob'→ob'.row = ob.row)∧(∀ j,S.length≤j→j < S'.length→j ∈ reach (S'.map some) aB (List.range S.length) [])∧(∀ a,la0 = some a→la1 = some a)∧(la0 = none→∀ a,la1 = some a→S.length≤a)) :
  ∃ H' la' acc' s',evT X 86 [.int .i64 x,.int .i64 (k:Nat),.ptr (sg π 0) 0 0 0,.ptr (sg π n0) 0 0 0,.ptr (sg π r0) 0 0 0] H = some (.tup [],H')∧AgV c b mo n t H' (sg π 0) (sg π n0) (sg π r0) (sg π o0) la' (oa0.map (sg π)) acc' s'∧(acc',s') = agR n acc x k s∧H.length≤H'.length ∧
   (∀ a,la0 = some a→la' = some (sg π a))∧(la0 = none→∀ a,la' = some a→H.length≤a)∧(∀ j,j < H.length→j ∉ π.map Prod.fst→H'[j]? = H[j]?):=by
 obtain ⟨code,hc⟩:∃ code,Try.f86.body = some code:=⟨_,rfl⟩
 have p0:=(Img.bx1 hI hS.l).1
 have pn:=(Img.bx1 hI hS.n).1
 have pr:=(Img.bx1 hI hS.r).1
 have l0:=eY hS.l
 have ln:=eY hS.n
 have lr:=eY hS.r
 have lo:=eY hS.d
 have loa:∀ a,oa0 = some a→a < S.length:=by
  intro a ha
  have:=hS.po
  subst ha
  exact eY this
 have lla:∀ a,la0 = some a→a < S.length:=by
  intro a ha
  have:=hS.pl
  subst ha
  exact eY this
 obtain ⟨π'',S',v0,H',τf,hE,hτf,hI',hok',hid,⟨la1,acc',s',hS',hv0,hag,hm,hnw⟩,hlen,hfix,hnew,hrest⟩:=Ev1.img (C:=X) (T:=evT X) (f:=86) (H:=H) (n:=6) (xs:=[.int .i64 x,.int .i64 (k:Nat),.ptr (sg π 0) 0 0 0,.ptr (sg π n0) 0 0 0,.ptr (sg π r0) 0 0 0]) (ys:=[.int .i64 x,.int .i64 (k:Nat),.ptr 0 0 0 0,.ptr n0 0 0 0,.ptr r0 0 0 0])
  (Q:=fun S' v0=>∃ la1 acc' s',AgS c b mo n S' 0 n0 r0 o0 la1 oa0 acc' s'∧v0 = .tup []∧(acc',s') = agR n acc x k s∧(∀ a,la0 = some a→la1 = some a)∧(la0 = none→∀ a,la1 = some a→S.length≤a)) (bU X) Try.func86 hc hI hok
  (fK.flat rfl rfl (fK.flat rfl rfl (fK.ptr hI rfl p0 l0 (fK.ptr hI rfl pn ln (fK.ptr hI rfl pr lr fK.nil))))) (by simpa [aA,ids] using hR) rfl (by simp [dG]) (by
   intro E hEl hEI
   have hV:=AgV.nS hEI hS
   rw [BH l0,BH ln,BH lr,BH lo] at hV
   have e1:oa0.map (sg (pi0 S.length)) = oa0:=by
    cases oa0 with
    | none=>rfl
    | some a=>simp [BH (loa a rfl)]
   have e2:la0.map (sg (pi0 S.length)) = la0:=by
    cases la0 with
    | none=>rfl
    | some a=>simp [BH (lla a rfl)]
   rw [e1,e2] at hV
   obtain ⟨pq,hc2,ht⟩:=Xj (m:=S.length) (k:=k) (x:=x) hV hl hk
   rw [hc] at hc2
   obtain rfl:=Option.some.inj hc2
   rw [aa4]
   refine ht.mono fun out ho=>⟨ho.1,?_⟩
   obtain ⟨la',acc',s',q1,q2,q3,q4⟩:=ho.2
   obtain ⟨π',S',la1,r1,r2,r3,r4,r5,r6,r7,r8,r9⟩:=hx _ _ _ _ q1 q2 (fun h1 a ha=>by rw [← hEl];exact q3 h1 a ha)
   exact Leaves.plain rfl rfl rfl rfl r1 r2 r4 r5 r6 r7 ⟨la1,acc',s',r3,rfl,q4,r8,r9⟩)
 subst hv0
 have hV':=AgV.nS hI' hS'
 have hsg:∀ j,j < S.length→sg π'' j = sg π j:=by
  intro j hj
  obtain ⟨o,g,ob,h1,_,_⟩:=hI.at' hj
  obtain ⟨g',h2⟩:=hfix j o g h1
  rw [jw h1,jw h2]
 rw [hsg 0 l0,hsg n0 ln,hsg r0 lr,hsg o0 lo] at hV'
 have e1:oa0.map (sg π'') = oa0.map (sg π):=by
  cases oa0 with
  | none=>rfl
  | some a=>simp [hsg a (loa a rfl)]
 rw [e1] at hV'
 refine ⟨H',_,acc',s',dX hE,hV',hag,hlen,?_,?_,?_⟩
 ·intro a ha
  rw [hm a ha]
  simp [hsg a (lla a ha)]
 ·intro h1 a ha
  cases hq:la1 with
  | none=>rw [hq] at ha;cases ha
  | some z =>
   rw [hq] at ha
   simp only [Option.map_some,Option.some.injEq] at ha
   subst ha
   have hz:=hnw h1 z hq
   subst hq
   have hpl:=hS'.pl
   obtain ⟨o,g,ob,h2,_,_⟩:=hI'.at' (eY hpl)
   rw [jw h2]
   exact hnew z o g hz h2
 ·intro j hj hjn
  refine hrest j hj ?_
  intro k o g hk e
  exact hjn (List.mem_map.2 ⟨(o,g),List.mem_of_getElem? hk,e.symm⟩)
def mJ (c:Nat) (b:List UInt8) (mo n:Int) (acc:List Int) (s:Is):List AM.Obj:=[bxO (.ro 0 .pn 0) 0,bxO (.int .i64 n) 0,bxO (.ptr 3 0 0 0) 0,bJ c b mo s (.ro 0 .pn 0) 0 0]
theorem Ll:OkS (mJ c b mo n acc s):=by
 intro k ob0 hk x hx
 match k,hk with
 | 0,hk =>
  obtain rfl:=Option.some.inj hk
  simp [bxO,bJ,ids,aA] at hx <;> (subst hx;simp [mJ])
 | 1,hk =>
  obtain rfl:=Option.some.inj hk
  simp [bxO,bJ,ids,aA] at hx <;> (subst hx;simp [mJ])
 | 2,hk =>
  obtain rfl:=Option.some.inj hk
  simp [bxO,bJ,ids,aA] at hx <;> (subst hx;simp [mJ])
 | 3,hk =>
  obtain rfl:=Option.some.inj hk
  simp [bxO,bJ,ids,aA] at hx <;> (subst hx;simp [mJ])
 | k + 4,hk=>simp [mJ] at hk
theorem Qj (ha:acc = []) (ho:s.o = []):AgS c b mo n (mJ c b mo n acc s) 0 1 2 3 none none acc s:=⟨rfl,ha,rfl,rfl,rfl,ho,by decide⟩
theorem Xk:reach ((mJ c b mo n acc s).map some) aB [0,1,2] [] = List.range (mJ c b mo n acc s).length:=by
 show reach _ (99990 + 1 + 1 + 1 + 1 + 1 + 1 + 1 + 1 + 1 + 1) [0,1,2] [] = [0,1,2,3]
 simp [mJ,bxO,bJ,reach,ids,aA]
theorem Qk   (h:AgV c b mo n t H lb nb rb o none none acc s):∃ π,π = [(lb,0),(nb,0),(rb,0),(o,0)]∧Img t H π (mJ c b mo n acc s)∧acc = []∧s.o = []:=by
 have hnd:=h.nd
 obtain ⟨lv,τ,hτ,hb,hL⟩:=h.l
 obtain ⟨τ2,hτ2,hb2⟩:=h.n
 obtain ⟨τ3,hτ3,hb3⟩:=h.r
 obtain ⟨⟨vo,τ1,τr,hτ1,hτr,h0,ho⟩,hne⟩:=h.d
 obtain ⟨hacc,τl,hτl,rfl⟩:=hL
 obtain ⟨hso,τo,hτo,rfl⟩:=ho
 refine ⟨_,rfl,Img.ofL ⟨⟨_,hb,Like.jl (by simp [ren,bn,eP,tz,idN]) hτ (by simp [tags,aU];exact hτl)⟩,⟨_,hb2,Like.jl (by simp [ren,bn]) hτ2 (by simp [tags,aU])⟩,⟨_,hb3,Like.jl (by simp [ren,bn,eP,idN]) hτ3 (by simp [tags,aU])⟩,⟨_,h0,Like.jl (by simp [ren,bn,eP,tz,idN]) hτr (by simp [tags,aU];exact ⟨hτ1,hτo⟩)⟩,trivial⟩ ?_,hacc,hso⟩
 simp at hnd ⊢
 omega
def qU (c:Nat) (b:List UInt8) (mo n:Int) (acc:List Int) (s:Is):List AM.Obj:=[bxO (.sl 1 0 acc.length 0) 0,⟨.pi .i64 acc,0,none,0,true,false,0⟩,bxO (.int .i64 n) 0,bxO (.ptr 4 0 0 0) 0,bJ c b mo s (.ro 0 .pn 0) 0 0]
theorem Lm:OkS (qU c b mo n acc s):=by
 intro k ob0 hk x hx
 match k,hk with
 | 0,hk =>
  obtain rfl:=Option.some.inj hk
  simp [bxO,bJ,ids,aA] at hx <;> (subst hx;simp [qU])
 | 1,hk =>
  obtain rfl:=Option.some.inj hk
  simp [bxO,bJ,ids,aA] at hx <;> (subst hx;simp [qU])
 | 2,hk =>
  obtain rfl:=Option.some.inj hk
  simp [bxO,bJ,ids,aA] at hx <;> (subst hx;simp [qU])
 | 3,hk =>
  obtain rfl:=Option.some.inj hk
  simp [bxO,bJ,ids,aA] at hx <;> (subst hx;simp [qU])
 | 4,hk =>
  obtain rfl:=Option.some.inj hk
  simp [bxO,bJ,ids,aA] at hx <;> (subst hx;simp [qU])
 | k + 5,hk=>simp [qU] at hk
theorem Ql  (ho:s.o = []):AgS c b mo n (qU c b mo n acc s) 0 2 3 4 (some 1) none acc s:=⟨rfl,rfl,rfl,rfl,rfl,ho,by decide⟩
theorem Xl:reach ((qU c b mo n acc s).map some) aB [0,2,3] [] = List.range (qU c b mo n acc s).length:=by
 show reach _ (99990 + 1 + 1 + 1 + 1 + 1 + 1 + 1 + 1 + 1 + 1) [0,2,3] [] = [0,1,2,3,4]
 simp [qU,bxO,bJ,reach,ids,aA]
theorem Qm {a:Nat}  (h:AgV c b mo n t H lb nb rb o (some a) none acc s):∃ g π,π = [(lb,0),(a,g),(nb,0),(rb,0),(o,0)]∧Img t H π (qU c b mo n acc s)∧s.o = []:=by
 have hnd:=h.nd
 obtain ⟨lv,τ,hτ,hb,hL⟩:=h.l
 obtain ⟨τ2,hτ2,hb2⟩:=h.n
 obtain ⟨τ3,hτ3,hb3⟩:=h.r
 obtain ⟨⟨vo,τ1,τr,hτ1,hτr,h0,ho⟩,hne⟩:=h.d
 obtain ⟨g,τl,obl,hτl,rfl,hla,hwl⟩:=hL
 obtain ⟨hso,τo,hτo,rfl⟩:=ho
 refine ⟨g,_,rfl,Img.ofL ⟨⟨_,hb,Like.jl (by simp [ren,bn,eP,tz,idN]) hτ (by simp [tags,aU])⟩,⟨_,hla,Like.ofRow hwl rfl hτl⟩,⟨_,hb2,Like.jl (by simp [ren,bn]) hτ2 (by simp [tags,aU])⟩,⟨_,hb3,Like.jl (by simp [ren,bn,eP,idN]) hτ3 (by simp [tags,aU])⟩,⟨_,h0,Like.jl (by simp [ren,bn,eP,tz,idN]) hτr (by simp [tags,aU];exact ⟨hτ1,hτo⟩)⟩,trivial⟩ ?_,hso⟩
 simp at hnd ⊢
 omega
def lJ (c:Nat) (b:List UInt8) (mo n:Int) (acc:List Int) (s:Is):List AM.Obj:=[bxO (.ro 0 .pn 0) 0,bxO (.int .i64 n) 0,bxO (.ptr 3 0 0 0) 0,bJ c b mo s (.sl 4 0 s.o.length 0) 0 0,⟨.pb s.o,0,none,0,true,false,0⟩]
theorem Lp:OkS (lJ c b mo n acc s):=by
 intro k ob0 hk x hx
 match k,hk with
 | 0,hk =>
  obtain rfl:=Option.some.inj hk
  simp [bxO,bJ,ids,aA] at hx <;> (subst hx;simp [lJ])
 | 1,hk =>
  obtain rfl:=Option.some.inj hk
  simp [bxO,bJ,ids,aA] at hx <;> (subst hx;simp [lJ])
 | 2,hk =>
  obtain rfl:=Option.some.inj hk
  simp [bxO,bJ,ids,aA] at hx <;> (subst hx;simp [lJ])
 | 3,hk =>
  obtain rfl:=Option.some.inj hk
  simp [bxO,bJ,ids,aA] at hx <;> (subst hx;simp [lJ])
 | 4,hk =>
  obtain rfl:=Option.some.inj hk
  simp [bxO,bJ,ids,aA] at hx <;> (subst hx;simp [lJ])
 | k + 5,hk=>simp [lJ] at hk
theorem Qn (ha:acc = []):AgS c b mo n (lJ c b mo n acc s) 0 1 2 3 none (some 4) acc s:=⟨rfl,ha,rfl,rfl,rfl,rfl,by decide⟩
theorem Xm:reach ((lJ c b mo n acc s).map some) aB [0,1,2] [] = List.range (lJ c b mo n acc s).length:=by
 show reach _ (99990 + 1 + 1 + 1 + 1 + 1 + 1 + 1 + 1 + 1 + 1) [0,1,2] [] = [0,1,2,3,4]
 simp [lJ,bxO,bJ,reach,ids,aA]
theorem Qo  {z:Nat} (h:AgV c b mo n t H lb nb rb o none (some z) acc s):∃ g2 π,π = [(lb,0),(nb,0),(rb,0),(o,0),(z,g2)]∧Img t H π (lJ c b mo n acc s)∧acc = []:=by
 have hnd:=h.nd
 obtain ⟨lv,τ,hτ,hb,hL⟩:=h.l
 obtain ⟨τ2,hτ2,hb2⟩:=h.n
 obtain ⟨τ3,hτ3,hb3⟩:=h.r
 obtain ⟨⟨vo,τ1,τr,hτ1,hτr,h0,ho⟩,hne⟩:=h.d
 obtain ⟨hacc,τl,hτl,rfl⟩:=hL
 obtain ⟨g2,τo,obo,hτo,rfl,hoa,hwo⟩:=ho
 refine ⟨g2,_,rfl,Img.ofL ⟨⟨_,hb,Like.jl (by simp [ren,bn,eP,tz,idN]) hτ (by simp [tags,aU];exact hτl)⟩,⟨_,hb2,Like.jl (by simp [ren,bn]) hτ2 (by simp [tags,aU])⟩,⟨_,hb3,Like.jl (by simp [ren,bn,eP,idN]) hτ3 (by simp [tags,aU])⟩,⟨_,h0,Like.jl (by simp [ren,bn,eP,tz,idN]) hτr (by simp [tags,aU];exact hτ1)⟩,⟨_,hoa,Like.ofRow hwo rfl hτo⟩,trivial⟩ ?_,hacc⟩
 simp at hnd ⊢
 omega
def pX (c:Nat) (b:List UInt8) (mo n:Int) (acc:List Int) (s:Is):List AM.Obj:=[bxO (.sl 1 0 acc.length 0) 0,⟨.pi .i64 acc,0,none,0,true,false,0⟩,bxO (.int .i64 n) 0,bxO (.ptr 4 0 0 0) 0,bJ c b mo s (.sl 5 0 s.o.length 0) 0 0,⟨.pb s.o,0,none,0,true,false,0⟩]
theorem Lr:OkS (pX c b mo n acc s):=by
 intro k ob0 hk x hx
 match k,hk with
 | 0,hk =>
  obtain rfl:=Option.some.inj hk
  simp [bxO,bJ,ids,aA] at hx <;> (subst hx;simp [pX])
 | 1,hk =>
  obtain rfl:=Option.some.inj hk
  simp [bxO,bJ,ids,aA] at hx <;> (subst hx;simp [pX])
 | 2,hk =>
  obtain rfl:=Option.some.inj hk
  simp [bxO,bJ,ids,aA] at hx <;> (subst hx;simp [pX])
 | 3,hk =>
  obtain rfl:=Option.some.inj hk
  simp [bxO,bJ,ids,aA] at hx <;> (subst hx;simp [pX])
 | 4,hk =>
  obtain rfl:=Option.some.inj hk
  simp [bxO,bJ,ids,aA] at hx <;> (subst hx;simp [pX])
 | 5,hk =>
  obtain rfl:=Option.some.inj hk
  simp [bxO,bJ,ids,aA] at hx <;> (subst hx;simp [pX])
 | k + 6,hk=>simp [pX] at hk
theorem Qp :AgS c b mo n (pX c b mo n acc s) 0 2 3 4 (some 1) (some 5) acc s:=⟨rfl,rfl,rfl,rfl,rfl,rfl,by decide⟩
theorem Xn:reach ((pX c b mo n acc s).map some) aB [0,2,3] [] = List.range (pX c b mo n acc s).length:=by
 show reach _ (99990 + 1 + 1 + 1 + 1 + 1 + 1 + 1 + 1 + 1 + 1) [0,2,3] [] = [0,1,2,3,4,5]
 simp [pX,bxO,bJ,reach,ids,aA]
theorem Qq {a:Nat} {z:Nat} (h:AgV c b mo n t H lb nb rb o (some a) (some z) acc s):∃ g g2 π,π = [(lb,0),(a,g),(nb,0),(rb,0),(o,0),(z,g2)]∧Img t H π (pX c b mo n acc s):=by
 have hnd:=h.nd
 obtain ⟨lv,τ,hτ,hb,hL⟩:=h.l
 obtain ⟨τ2,hτ2,hb2⟩:=h.n
 obtain ⟨τ3,hτ3,hb3⟩:=h.r
 obtain ⟨⟨vo,τ1,τr,hτ1,hτr,h0,ho⟩,hne⟩:=h.d
 obtain ⟨g,τl,obl,hτl,rfl,hla,hwl⟩:=hL
 obtain ⟨g2,τo,obo,hτo,rfl,hoa,hwo⟩:=ho
 refine ⟨g,g2,_,rfl,Img.ofL ⟨⟨_,hb,Like.jl (by simp [ren,bn,eP,tz,idN]) hτ (by simp [tags,aU])⟩,⟨_,hla,Like.ofRow hwl rfl hτl⟩,⟨_,hb2,Like.jl (by simp [ren,bn]) hτ2 (by simp [tags,aU])⟩,⟨_,hb3,Like.jl (by simp [ren,bn,eP,idN]) hτ3 (by simp [tags,aU])⟩,⟨_,h0,Like.jl (by simp [ren,bn,eP,tz,idN]) hτr (by simp [tags,aU];exact hτ1)⟩,⟨_,hoa,Like.ofRow hwo rfl hτo⟩,trivial⟩ ?_⟩
 simp at hnd ⊢
 omega
def nT (c:Nat) (b:List UInt8) (mo n:Int) (acc:List Int) (s:Is):List AM.Obj:=[bxO (.sl 4 0 acc.length 0) 0,bxO (.int .i64 n) 0,bxO (.ptr 3 0 0 0) 0,bJ c b mo s (.ro 0 .pn 0) 0 0,⟨.pi .i64 acc,0,none,0,true,false,0⟩]
theorem SC:OkS (nT c b mo n acc s):=by
 intro k ob0 hk x hx
 match k,hk with
 | 0,hk =>
  obtain rfl:=Option.some.inj hk
  simp [bxO,bJ,ids,aA] at hx <;> (subst hx;simp [nT])
 | 1,hk =>
  obtain rfl:=Option.some.inj hk
  simp [bxO,bJ,ids,aA] at hx <;> (subst hx;simp [nT])
 | 2,hk =>
  obtain rfl:=Option.some.inj hk
  simp [bxO,bJ,ids,aA] at hx <;> (subst hx;simp [nT])
 | 3,hk =>
  obtain rfl:=Option.some.inj hk
  simp [bxO,bJ,ids,aA] at hx <;> (subst hx;simp [nT])
 | 4,hk =>
  obtain rfl:=Option.some.inj hk
  simp [bxO,bJ,ids,aA] at hx <;> (subst hx;simp [nT])
 | k + 5,hk=>simp [nT] at hk
theorem UW  (ho:s.o = []):AgS c b mo n (nT c b mo n acc s) 0 1 2 3 (some 4) none acc s:=⟨rfl,rfl,rfl,rfl,rfl,ho,by decide⟩
theorem UY:4 ∈ reach ((nT c b mo n acc s).map some) aB [0,1,2,3] []:=by
 show 4 ∈ reach _ (99990 + 1 + 1 + 1 + 1 + 1 + 1 + 1 + 1 + 1 + 1) _ []
 simp [nT,bxO,bJ,reach,ids,aA]
theorem UZ {a:Nat}  (h:AgV c b mo n t H lb nb rb o (some a) none acc s):∃ g π,π = [(lb,0),(nb,0),(rb,0),(o,0),(a,g)]∧Img t H π (nT c b mo n acc s)∧s.o = []:=by
 have hnd:=h.nd
 obtain ⟨lv,τ,hτ,hb,hL⟩:=h.l
 obtain ⟨τ2,hτ2,hb2⟩:=h.n
 obtain ⟨τ3,hτ3,hb3⟩:=h.r
 obtain ⟨⟨vo,τ1,τr,hτ1,hτr,h0,ho⟩,hne⟩:=h.d
 obtain ⟨g,τl,obl,hτl,rfl,hla,hwl⟩:=hL
 obtain ⟨hso,τo,hτo,rfl⟩:=ho
 refine ⟨g,_,rfl,Img.ofL ⟨⟨_,hb,Like.jl (by simp [ren,bn,eP,tz,idN]) hτ (by simp [tags,aU])⟩,⟨_,hb2,Like.jl (by simp [ren,bn]) hτ2 (by simp [tags,aU])⟩,⟨_,hb3,Like.jl (by simp [ren,bn,eP,idN]) hτ3 (by simp [tags,aU])⟩,⟨_,h0,Like.jl (by simp [ren,bn,eP,tz,idN]) hτr (by simp [tags,aU];exact ⟨hτ1,hτo⟩)⟩,⟨_,hla,Like.ofRow hwl rfl hτl⟩,trivial⟩ ?_,hso⟩
 simp at hnd ⊢
 omega
def mM (c:Nat) (b:List UInt8) (mo n:Int) (acc:List Int) (s:Is):List AM.Obj:=[bxO (.sl 5 0 acc.length 0) 0,bxO (.int .i64 n) 0,bxO (.ptr 3 0 0 0) 0,bJ c b mo s (.sl 4 0 s.o.length 0) 0 0,⟨.pb s.o,0,none,0,true,false,0⟩,⟨.pi .i64 acc,0,none,0,true,false,0⟩]
theorem SE:OkS (mM c b mo n acc s):=by
 intro k ob0 hk x hx
 match k,hk with
 | 0,hk =>
  obtain rfl:=Option.some.inj hk
  simp [bxO,bJ,ids,aA] at hx <;> (subst hx;simp [mM])
 | 1,hk =>
  obtain rfl:=Option.some.inj hk
  simp [bxO,bJ,ids,aA] at hx <;> (subst hx;simp [mM])
 | 2,hk =>
  obtain rfl:=Option.some.inj hk
  simp [bxO,bJ,ids,aA] at hx <;> (subst hx;simp [mM])
 | 3,hk =>
  obtain rfl:=Option.some.inj hk
  simp [bxO,bJ,ids,aA] at hx <;> (subst hx;simp [mM])
 | 4,hk =>
  obtain rfl:=Option.some.inj hk
  simp [bxO,bJ,ids,aA] at hx <;> (subst hx;simp [mM])
 | 5,hk =>
  obtain rfl:=Option.some.inj hk
  simp [bxO,bJ,ids,aA] at hx <;> (subst hx;simp [mM])
 | k + 6,hk=>simp [mM] at hk
theorem U0 :AgS c b mo n (mM c b mo n acc s) 0 1 2 3 (some 5) (some 4) acc s:=⟨rfl,rfl,rfl,rfl,rfl,rfl,by decide⟩
theorem U1:5 ∈ reach ((mM c b mo n acc s).map some) aB [0,1,2,3,4] []:=by
 show 5 ∈ reach _ (99990 + 1 + 1 + 1 + 1 + 1 + 1 + 1 + 1 + 1 + 1) _ []
 simp [mM,bxO,bJ,reach,ids,aA]
theorem U2 {a:Nat} {z:Nat} (h:AgV c b mo n t H lb nb rb o (some a) (some z) acc s):∃ g g2 π,π = [(lb,0),(nb,0),(rb,0),(o,0),(z,g2),(a,g)]∧Img t H π (mM c b mo n acc s):=by
 have hnd:=h.nd
 obtain ⟨lv,τ,hτ,hb,hL⟩:=h.l
 obtain ⟨τ2,hτ2,hb2⟩:=h.n
 obtain ⟨τ3,hτ3,hb3⟩:=h.r
 obtain ⟨⟨vo,τ1,τr,hτ1,hτr,h0,ho⟩,hne⟩:=h.d
 obtain ⟨g,τl,obl,hτl,rfl,hla,hwl⟩:=hL
 obtain ⟨g2,τo,obo,hτo,rfl,hoa,hwo⟩:=ho
 refine ⟨g,g2,_,rfl,Img.ofL ⟨⟨_,hb,Like.jl (by simp [ren,bn,eP,tz,idN]) hτ (by simp [tags,aU])⟩,⟨_,hb2,Like.jl (by simp [ren,bn]) hτ2 (by simp [tags,aU])⟩,⟨_,hb3,Like.jl (by simp [ren,bn,eP,idN]) hτ3 (by simp [tags,aU])⟩,⟨_,h0,Like.jl (by simp [ren,bn,eP,tz,idN]) hτr (by simp [tags,aU];exact hτ1)⟩,⟨_,hoa,Like.ofRow hwo rfl hτo⟩,⟨_,hla,Like.ofRow hwl rfl hτl⟩,trivial⟩ ?_⟩
 simp at hnd ⊢
 omega
theorem U3 {k:Nat} {x:Int} (h:AgV c b mo n t H lb nb rb o la oa acc s) (hl:acc.length≤1000) (hk:k≤1000) :
  ∃ H' la' acc' s',evT X 86 [.int .i64 x,.int .i64 (k:Nat),.ptr lb 0 0 0,.ptr nb 0 0 0,.ptr rb 0 0 0] H = some (.tup [],H')∧AgV c b mo n t H' lb nb rb o la' oa acc' s'∧(acc',s') = agR n acc x k s∧H.length≤H'.length ∧
   (∀ a,la = some a→la' = some a)∧(la = none→∀ a,la' = some a→H.length≤a)∧(∀ j,j < H.length→j ∉ [lb,nb,rb,o] ++ la.toList ++ oa.toList→H'[j]? = H[j]?):=by
 cases la with
 | none=>cases oa with
  | none =>
   obtain ⟨π,rfl,hI,hacc,hso⟩:=Qk h
   obtain ⟨H',la',acc',s',e1,e2,e3,e4,e5,e6,e7⟩:=DU (k:=k) (x:=x) hI (Qj hacc hso) Ll Xk hl hk (by
    intro E' la' acc' s' hV hm hn
    cases la' with
    | none =>
     obtain ⟨π,rfl,hI2,U4,U5⟩:=Qk hV
     refine ⟨_,_,_,hI2,Ll,Qj U4 U5,Nat.le_refl _,?_,?_,?_,fun a ha=>(by cases ha),fun _ a ha=>(by cases ha)⟩
     ·intro j hj
      simp [mJ] at hj
      match j,hj with
      | 0,_=>exact ⟨_,rfl⟩
      | 1,_=>exact ⟨_,rfl⟩
      | 2,_=>exact ⟨_,rfl⟩
      | 3,_=>exact ⟨_,rfl⟩
     ·intro j ob ob2 h1 h2
      match j,h1,h2 with
      | 0,h1,h2 =>
       have e1:=Option.some.inj h1
       have e2:=Option.some.inj h2
       subst e1 e2;rfl
      | 1,h1,h2 =>
       have e1:=Option.some.inj h1
       have e2:=Option.some.inj h2
       subst e1 e2;rfl
      | 2,h1,h2 =>
       have e1:=Option.some.inj h1
       have e2:=Option.some.inj h2
       subst e1 e2;rfl
      | 3,h1,h2 =>
       have e1:=Option.some.inj h1
       have e2:=Option.some.inj h2
       subst e1 e2;rfl
      | j + 4,h1,_=>simp [mJ] at h1
     ·intro j h1 h2
      simp [mJ] at h1 h2;omega
    | some a =>
     have hge:=hn rfl a rfl
     obtain ⟨g,π,rfl,hI2,U5⟩:=UZ hV
     refine ⟨_,_,some 4,hI2,SC,UW U5,by simp [mJ,nT],?_,?_,?_,fun a ha=>(by cases ha),fun _ a ha=>(by cases ha;simp [mJ])⟩
     ·intro j hj
      simp [mJ] at hj
      match j,hj with
      | 0,_=>exact ⟨_,rfl⟩
      | 1,_=>exact ⟨_,rfl⟩
      | 2,_=>exact ⟨_,rfl⟩
      | 3,_=>exact ⟨_,rfl⟩
     ·intro j ob ob2 h1 h2
      match j,h1,h2 with
      | 0,h1,h2 =>
       have e1:=Option.some.inj h1
       have e2:=Option.some.inj h2
       subst e1 e2;rfl
      | 1,h1,h2 =>
       have e1:=Option.some.inj h1
       have e2:=Option.some.inj h2
       subst e1 e2;rfl
      | 2,h1,h2 =>
       have e1:=Option.some.inj h1
       have e2:=Option.some.inj h2
       subst e1 e2;rfl
      | 3,h1,h2 =>
       have e1:=Option.some.inj h1
       have e2:=Option.some.inj h2
       subst e1 e2;rfl
      | j + 4,h1,_=>simp [mJ] at h1
     ·intro j h1 h2
      simp [mJ,nT] at h1 h2
      have:j = 4:=by omega
      subst this
      exact UY)
   refine ⟨H',la',acc',s',e1,e2,e3,e4,fun a ha=>(by cases ha),fun _ a ha=>e6 rfl a ha,fun j hj hjn=>e7 j hj ?_⟩
   intro hm
   apply hjn
   simp at hm ⊢
   omega
  | some z =>
   obtain ⟨g2,π,rfl,hI,hacc⟩:=Qo h
   obtain ⟨H',la',acc',s',e1,e2,e3,e4,e5,e6,e7⟩:=DU (k:=k) (x:=x) hI (Qn hacc ) Lp Xm hl hk (by
    intro E' la' acc' s' hV hm hn
    cases la' with
    | none =>
     obtain ⟨g2,π,rfl,hI2,U4⟩:=Qo hV
     refine ⟨_,_,_,hI2,Lp,Qn U4 ,Nat.le_refl _,?_,?_,?_,fun a ha=>(by cases ha),fun _ a ha=>(by cases ha)⟩
     ·intro j hj
      simp [lJ] at hj
      match j,hj with
      | 0,_=>exact ⟨_,rfl⟩
      | 1,_=>exact ⟨_,rfl⟩
      | 2,_=>exact ⟨_,rfl⟩
      | 3,_=>exact ⟨_,rfl⟩
      | 4,_=>exact ⟨_,rfl⟩
     ·intro j ob ob2 h1 h2
      match j,h1,h2 with
      | 0,h1,h2 =>
       have e1:=Option.some.inj h1
       have e2:=Option.some.inj h2
       subst e1 e2;rfl
      | 1,h1,h2 =>
       have e1:=Option.some.inj h1
       have e2:=Option.some.inj h2
       subst e1 e2;rfl
      | 2,h1,h2 =>
       have e1:=Option.some.inj h1
       have e2:=Option.some.inj h2
       subst e1 e2;rfl
      | 3,h1,h2 =>
       have e1:=Option.some.inj h1
       have e2:=Option.some.inj h2
       subst e1 e2;rfl
      | 4,h1,h2 =>
       have e1:=Option.some.inj h1
       have e2:=Option.some.inj h2
       subst e1 e2;rfl
      | j + 5,h1,_=>simp [lJ] at h1
     ·intro j h1 h2
      simp [lJ] at h1 h2;omega
    | some a =>
     have hge:=hn rfl a rfl
     obtain ⟨g,g2,π,rfl,hI2⟩:=U2 hV
     refine ⟨_,_,some 5,hI2,SE,U0 ,by simp [lJ,mM],?_,?_,?_,fun a ha=>(by cases ha),fun _ a ha=>(by cases ha;simp [lJ])⟩
     ·intro j hj
      simp [lJ] at hj
      match j,hj with
      | 0,_=>exact ⟨_,rfl⟩
      | 1,_=>exact ⟨_,rfl⟩
      | 2,_=>exact ⟨_,rfl⟩
      | 3,_=>exact ⟨_,rfl⟩
      | 4,_=>exact ⟨_,rfl⟩
     ·intro j ob ob2 h1 h2
      match j,h1,h2 with
      | 0,h1,h2 =>
       have e1:=Option.some.inj h1
       have e2:=Option.some.inj h2
       subst e1 e2;rfl
      | 1,h1,h2 =>
       have e1:=Option.some.inj h1
       have e2:=Option.some.inj h2
       subst e1 e2;rfl
      | 2,h1,h2 =>
       have e1:=Option.some.inj h1
       have e2:=Option.some.inj h2
       subst e1 e2;rfl
      | 3,h1,h2 =>
       have e1:=Option.some.inj h1
       have e2:=Option.some.inj h2
       subst e1 e2;rfl
      | 4,h1,h2 =>
       have e1:=Option.some.inj h1
       have e2:=Option.some.inj h2
       subst e1 e2;rfl
      | j + 5,h1,_=>simp [lJ] at h1
     ·intro j h1 h2
      simp [lJ,mM] at h1 h2
      have:j = 5:=by omega
      subst this
      exact U1)
   refine ⟨H',la',acc',s',e1,e2,e3,e4,fun a ha=>(by cases ha),fun _ a ha=>e6 rfl a ha,fun j hj hjn=>e7 j hj ?_⟩
   intro hm
   apply hjn
   simp at hm ⊢
   omega
 | some a=>cases oa with
  | none =>
   obtain ⟨g,π,rfl,hI,hso⟩:=Qm h
   obtain ⟨H',la',acc',s',e1,e2,e3,e4,e5,e6,e7⟩:=DU (k:=k) (x:=x) hI (Ql hso) Lm Xl hl hk (by
    intro E' la' acc' s' hV hm hn
    obtain rfl:=hm 1 rfl
    obtain ⟨g,π,rfl,hI2,U5⟩:=Qm hV
    refine ⟨_,_,_,hI2,Lm,Ql U5,Nat.le_refl _,?_,?_,?_,fun a ha=>ha,fun ha=>(by cases ha)⟩
    ·intro j hj
     simp [qU] at hj
     match j,hj with
     | 0,_=>exact ⟨_,rfl⟩
     | 1,_=>exact ⟨_,rfl⟩
     | 2,_=>exact ⟨_,rfl⟩
     | 3,_=>exact ⟨_,rfl⟩
     | 4,_=>exact ⟨_,rfl⟩
    ·intro j ob ob2 h1 h2
     match j,h1,h2 with
     | 0,h1,h2 =>
      have e1:=Option.some.inj h1
      have e2:=Option.some.inj h2
      subst e1 e2;rfl
     | 1,h1,h2 =>
      have e1:=Option.some.inj h1
      have e2:=Option.some.inj h2
      subst e1 e2;rfl
     | 2,h1,h2 =>
      have e1:=Option.some.inj h1
      have e2:=Option.some.inj h2
      subst e1 e2;rfl
     | 3,h1,h2 =>
      have e1:=Option.some.inj h1
      have e2:=Option.some.inj h2
      subst e1 e2;rfl
     | 4,h1,h2 =>
      have e1:=Option.some.inj h1
      have e2:=Option.some.inj h2
      subst e1 e2;rfl
     | j + 5,h1,_=>simp [qU] at h1
    ·intro j h1 h2
     simp [qU] at h1 h2;omega)
   refine ⟨H',la',acc',s',e1,e2,e3,e4,fun a ha=>(by cases ha;exact e5 1 rfl),fun ha=>(by cases ha),fun j hj hjn=>e7 j hj ?_⟩
   intro hm
   apply hjn
   simp at hm ⊢
   omega
  | some z =>
   obtain ⟨g,g2,π,rfl,hI⟩:=Qq h
   obtain ⟨H',la',acc',s',e1,e2,e3,e4,e5,e6,e7⟩:=DU (k:=k) (x:=x) hI (Qp ) Lr Xn hl hk (by
    intro E' la' acc' s' hV hm hn
    obtain rfl:=hm 1 rfl
    obtain ⟨g,g2,π,rfl,hI2⟩:=Qq hV
    refine ⟨_,_,_,hI2,Lr,Qp ,Nat.le_refl _,?_,?_,?_,fun a ha=>ha,fun ha=>(by cases ha)⟩
    ·intro j hj
     simp [pX] at hj
     match j,hj with
     | 0,_=>exact ⟨_,rfl⟩
     | 1,_=>exact ⟨_,rfl⟩
     | 2,_=>exact ⟨_,rfl⟩
     | 3,_=>exact ⟨_,rfl⟩
     | 4,_=>exact ⟨_,rfl⟩
     | 5,_=>exact ⟨_,rfl⟩
    ·intro j ob ob2 h1 h2
     match j,h1,h2 with
     | 0,h1,h2 =>
      have e1:=Option.some.inj h1
      have e2:=Option.some.inj h2
      subst e1 e2;rfl
     | 1,h1,h2 =>
      have e1:=Option.some.inj h1
      have e2:=Option.some.inj h2
      subst e1 e2;rfl
     | 2,h1,h2 =>
      have e1:=Option.some.inj h1
      have e2:=Option.some.inj h2
      subst e1 e2;rfl
     | 3,h1,h2 =>
      have e1:=Option.some.inj h1
      have e2:=Option.some.inj h2
      subst e1 e2;rfl
     | 4,h1,h2 =>
      have e1:=Option.some.inj h1
      have e2:=Option.some.inj h2
      subst e1 e2;rfl
     | 5,h1,h2 =>
      have e1:=Option.some.inj h1
      have e2:=Option.some.inj h2
      subst e1 e2;rfl
     | j + 6,h1,_=>simp [pX] at h1
    ·intro j h1 h2
     simp [pX] at h1 h2;omega)
   refine ⟨H',la',acc',s',e1,e2,e3,e4,fun a ha=>(by cases ha;exact e5 1 rfl),fun ha=>(by cases ha),fun j hj hjn=>e7 j hj ?_⟩
   intro hm
   apply hjn
   simp at hm ⊢
   omega
end
end Go.Proofs.Ytcllinmgllmpmaa
