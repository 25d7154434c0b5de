/- WP to IN: texts of this claim, one behind the other; what each shows stands at its head. -/
import Derived.Test.YteblpjhkgdpchaaAm4
import Derived.Test.YteblpjhkgdpchaaMg6
set_option linter.unusedSimpArgs false
set_option linter.unusedVariables false
set_option maxRecDepth 100000
set_option maxHeartbeats 8000000
namespace Go.Proofs.Yteblpjhkgdpchaa
open Go.AM
theorem VI {c:Nat} {b:List UInt8} {a m:Int} {n f ks l:List Int} (hf:fine l = true) (hk:JJ ks l) :
    reach (rdH c b a n f ks l m) aA [5,1,0,3,2,4] [] = [5,1,0,3,2,4] ++ (aV l).map fun x=>6 + ks.idxOf x:=by
  have h0:(rdH c b a n f ks l m)[0]? = some (jY (.ro c (.pb b) 2) 0):=rfl
  have h1:(rdH c b a n f ks l m)[1]? = some (jY (.int .i64 a) 0):=rfl
  have h2:(rdH c b a n f ks l m)[2]? = some (oU 16 n 0):=rfl
  have h3:(rdH c b a n f ks l m)[3]? = some (oU 17 f 0):=rfl
  have h4:(rdH c b a n f ks l m)[4]? = some (vC (jX.map (syV 6 0 ks l true)) 0):=rfl
  have h5:(rdH c b a n f ks l m)[5]? = some (jY (.int .i64 m) 0):=rfl
  have hL:aB (jX.map (syV 6 0 ks l true)) = (aV l).map fun x=>6 + ks.idxOf x:=by rw [JK,Vr hk]
  have hmem:∀ x,x ∈ aV l→x ∈ ks:=fun x hx=>(hk.2 x).2 ((BJ hf x).1 hx)
  have hinj:∀ x ∈ aV l,∀ y ∈ aV l,6 + ks.idxOf x = 6 + ks.idxOf y→x = y:=by
    intro x hx y hy e
    have h1:=List.getElem_idxOf (List.idxOf_lt_length_of_mem (hmem x hx))
    have h2:=List.getElem_idxOf (List.idxOf_lt_length_of_mem (hmem y hy))
    have e':ks.idxOf x = ks.idxOf y:=by omega
    rw [← h1,← h2]
    simp only [e']
  have Nk:∀ o ∈ (aV l).map (fun x=>6 + ks.idxOf x),∃ ob,(rdH c b a n f ks l m)[o]? = some (some ob)∧ob.ids = false:=by
    intro o ho
    obtain ⟨x,hx,rfl⟩:=List.mem_map.1 ho
    have hlt:=List.idxOf_lt_length_of_mem (hmem x hx)
    refine ⟨⟨.pi .i64 (dF x l 0),(dF x l 0).length - 1,.none,(if (dF x l 0).length≤1 then 0 else 1),true,false,0⟩,?_,rfl⟩
    unfold rdH
    rw [List.getElem?_append_right (by simp),List.getElem?_map]
    simp only [List.length_cons,List.length_nil]
    rw [show 6 + ks.idxOf x - 6 = ks.idxOf x by omega,List.getElem?_eq_getElem hlt]
    simp [kK]
  have hnd:((aV l).map fun x=>6 + ks.idxOf x).Nodup:=by
    rw [List.nodup_iff_pairwise_ne,List.pairwise_map]
    refine (List.nodup_iff_pairwise_ne.1 (CQ l)).imp_of_mem ?_
    intro x y hx hy hne e
    exact hne (hinj x hx y hy e)
  have hend:=yS (rdH c b a n f ks l m) ((aV l).map fun x=>6 + ks.idxOf x) [5,1,0,3,2,4] 99994 (by have:=BK l;simp;omega) Nk hnd (by
    intro o ho
    obtain ⟨x,_,rfl⟩:=List.mem_map.1 ho
    simp;omega)
  show reach _ (99994 + 1 + 1 + 1 + 1 + 1 + 1) [5,1,0,3,2,4] [] = _
  rw [← hL] at hend ⊢
  generalize rdH c b a n f ks l m = H at *
  unfold jY at h0 h1 h5
  unfold oU at h2 h3
  unfold vC at h4
  simp [reach,h0,h1,h2,h3,h4,h5,ids,aB,hend]
theorem mM:∀ (P L:List (Option AM.Obj)),au (P ++ L) = au P ++ au L
  | [],L=>rfl
  | some ob :: r,L=>by simp only [List.cons_append,au,mM r L,List.append_assoc]
  | none :: r,L=>by simp only [List.cons_append,au,mM r L]
theorem sD (t:Nat) (h:Int→List Int) (g:Int→Nat):∀ zs:List Int,∀ u ∈ au (zs.map fun x=>kK (h x) (g x) t),u = t
  | [],u,hu=>by simp [au] at hu
  | z :: r,u,hu=>by
    simp only [List.map_cons,kK,au,dn,List.mem_append] at hu
    rcases hu with hu | hu
    · simpa using hu
    · exact sD t h g r u hu
theorem XO {c:Nat} {b:List UInt8} {a m:Int} {n f ks l:List Int} (hf:fine l = true) (hk:JJ ks l) :
    wrap [] [] [⟨[],[1]⟩,⟨[],[2]⟩,⟨[],[]⟩,⟨[],[]⟩] (.fn 65 [.ptr 5 0 0 0,.ptr 1 0 0 0,.ptr 0 0 0 0,.ptr 3 0 0 0,.ptr 2 0 0 0,.ptr 4 0 0 0]) (rdH c b a n f ks l m) =
      some (.fn 65 [.ptr 0 0 0 0,.ptr 1 0 0 0,.ptr 2 0 0 0,.ptr 3 0 0 0,.ptr 4 0 0 0,.ptr 5 0 0 0],nH c b a m n f l 0 0 2 0):=by
  have hr:=VI (c:=c) (b:=b) (a:=a) (m:=m) (n:=n) (f:=f) hf hk
  have hmem:∀ x,x ∈ aV l→x ∈ ks:=fun x hx=>(hk.2 x).2 ((BJ hf x).1 hx)
  have hinj:∀ x ∈ aV l,∀ y ∈ aV l,6 + ks.idxOf x = 6 + ks.idxOf y→x = y:=by
    intro x hx y hy e
    have h1:=List.getElem_idxOf (List.idxOf_lt_length_of_mem (hmem x hx))
    have h2:=List.getElem_idxOf (List.idxOf_lt_length_of_mem (hmem y hy))
    have e':ks.idxOf x = ks.idxOf y:=by omega
    rw [← h1,← h2]
    simp only [e']
  have hat:∀ x ∈ aV l,(rdH c b a n f ks l m)[6 + ks.idxOf x]? = some (kK (dF x l 0) ((dF x l 0).length - 1) 0):=by
    intro x hx
    have hlt:=List.idxOf_lt_length_of_mem (hmem x hx)
    unfold rdH
    rw [List.getElem?_append_right (by simp),List.getElem?_map]
    simp only [List.length_cons,List.length_nil]
    rw [show 6 + ks.idxOf x - 6 = ks.idxOf x by omega,List.getElem?_eq_getElem hlt]
    simp
  have h0:(rdH c b a n f ks l m)[0]? = some (jY (.ro c (.pb b) 2) 0):=rfl
  have h1:(rdH c b a n f ks l m)[1]? = some (jY (.int .i64 a) 0):=rfl
  have h2:(rdH c b a n f ks l m)[2]? = some (oU 16 n 0):=rfl
  have h3:(rdH c b a n f ks l m)[3]? = some (oU 17 f 0):=rfl
  have h4:(rdH c b a n f ks l m)[4]? = some (vC (jX.map (syV 6 0 ks l true)) 0):=rfl
  have h5:(rdH c b a n f ks l m)[5]? = some (jY (.int .i64 m) 0):=rfl
  have hrows:((aV l).map fun x=>6 + ks.idxOf x).map (aX (rdH c b a n f ks l m)) = (aV l).map fun x=>kK (dF x l 0) ((dF x l 0).length - 1) 0:=by
    rw [List.map_map]
    refine List.map_congr_left fun x hx=>?_
    simp only [Function.comp_apply,aX,hat x hx,Option.getD_some]
  generalize hLd:(aV l).map (fun x=>6 + ks.idxOf x) = L at *
  have hnew:(reach (rdH c b a n f ks l m) aA (List.range ([]:List Nat).length ++ ids (.fn 65 [.ptr 5 0 0 0,.ptr 1 0 0 0,.ptr 0 0 0 0,.ptr 3 0 0 0,.ptr 2 0 0 0,.ptr 4 0 0 0])) []) = [5,1,0,3,2,4] ++ L:=hr
  have hfil:([5,1,0,3,2,4] ++ L).filter (fun o=>decide (([]:List Nat).length≤o)) = [5,1,0,3,2,4] ++ L:=List.filter_eq_self.2 fun o _=>by simp
  have hob:([5,1,0,3,2,4] ++ L).map (aX (rdH c b a n f ks l m)) = [jY (.int .i64 m) 0,jY (.int .i64 a) 0,jY (.ro c (.pb b) 2) 0,oU 17 f 0,oU 16 n 0,vC (jX.map (syV 6 0 ks l true)) 0] ++ (aV l).map fun x=>kK (dF x l 0) ((dF x l 0).length - 1) 0:=by
    rw [List.map_append,hrows]
    simp [aX,h0,h1,h2,h3,h4,h5]
  have hidx:∀ x ∈ aV l,AM.idxOf ([5,1,0,3,2,4] ++ L) (6 + ks.idxOf x) 0 = some (6 + (aV l).idxOf x):=by
    intro x hxp
    rw [Ic _ _ _ _ (by simp;omega),← hLd]
    exact Ib (g:=fun x=>6 + ks.idxOf x) (aV l) x 6 hxp fun y hy e=>hinj y hy x hxp e
  have i0:AM.idxOf ([5,1,0,3,2,4] ++ L) 0 0 = some 2:=rfl
  have i1:AM.idxOf ([5,1,0,3,2,4] ++ L) 1 0 = some 1:=rfl
  have i2:AM.idxOf ([5,1,0,3,2,4] ++ L) 2 0 = some 4:=rfl
  have i3:AM.idxOf ([5,1,0,3,2,4] ++ L) 3 0 = some 3:=rfl
  have i4:AM.idxOf ([5,1,0,3,2,4] ++ L) 4 0 = some 5:=rfl
  have i5:AM.idxOf ([5,1,0,3,2,4] ++ L) 5 0 = some 0:=rfl
  generalize [5,1,0,3,2,4] ++ L = NW at *
  generalize hτ:bQ [⟨[],[1]⟩,⟨[],[2]⟩,⟨[],[]⟩,⟨[],[]⟩] = τ at *
  have τ0:τ 0 = 0:=by rw [← hτ];rfl
  have τ2:τ 2 = 2:=by rw [← hτ];rfl
  generalize hρ:bJ [] [] NW (rdH c b a n f ks l m) = ρ at *
  -- the callee's names in the caller's
  have hsy:∀ x ∈ jX,ren ρ τ (syV 6 0 ks l true x) = syV (0 + 6) 0 (aV l) l false x:=by
    intro x hx16
    by_cases hx:x ∈ ks
    · have hxp:x ∈ aV l:=(BJ hf x).2 ((hk.2 x).1 hx)
      have hlive:live (rdH c b a n f ks l m) (6 + ks.idxOf x) ((dF x l 0).length - 1) = some ⟨.pi .i64 (dF x l 0),(dF x l 0).length - 1,.none,(if (dF x l 0).length≤1 then 0 else 1),true,false,0⟩:=by
        unfold live
        rw [hat x hxp]
        simp [kK]
      simp [syV,hx,hxp,ren,← hρ,bJ,hlive,hidx x hxp]
    · have hxp:x ∉ aV l:=fun z=>hx (hmem x z)
      simp [syV,hx,hxp,ren,τ0]
  have hlv:∀ o ob,(rdH c b a n f ks l m)[o]? = some (some ob)→ob.g = 0→∀ k,AM.idxOf NW o 0 = some k→ρ o 0 = some (k,0):=by
    intro o ob ho hg k hk
    simp [← hρ,bJ,live,ho,hg,hk]
  have g0:=hlv 0 _ h0 rfl 2 i0
  have g1:=hlv 1 _ h1 rfl 1 i1
  have g2:=hlv 2 _ h2 rfl 4 i2
  have g3:=hlv 3 _ h3 rfl 3 i3
  have g4:=hlv 4 _ h4 rfl 5 i4
  have g5:=hlv 5 _ h5 rfl 0 i5
  have hmap:NW.map (fun o=>(aX (rdH c b a n f ks l m) o).map (aT ρ τ 0)) = nH c b a m n f l 0 0 2 0:=by
    have e:NW.map (fun o=>(aX (rdH c b a n f ks l m) o).map (aT ρ τ 0)) = (NW.map (aX (rdH c b a n f ks l m))).map (Option.map (aT ρ τ 0)):=by rw [List.map_map];rfl
    rw [e,hob]
    unfold nH
    rw [List.map_append]
    congr 1
    · simp only [List.map_cons,List.map_nil,jY,oU,vC,Option.map_some,aT,ren,bg,iD,τ0,τ2]
      rw [List.map_congr_left hsy]
    · rw [List.map_map]
      refine List.map_congr_left fun x hx=>?_
      simp only [Function.comp_apply,kK,Option.map_some,aT,ren,τ0]
  have VB:∀ u ∈ au (NW.map (aX (rdH c b a n f ks l m))),u = 0∨u = 2:=by
    intro u hu
    rw [hob,mM,List.mem_append] at hu
    rcases hu with hu | hu
    · simp only [jY,oU,vC,au,dn,if_true,tags,aU,List.mem_append,List.append_nil,List.nil_append] at hu
      simp only [Bool.false_eq_true,if_false,List.cons_append,List.nil_append,List.mem_cons,List.not_mem_nil,or_false] at hu
      rcases hu with hu | hu | hu | hu
      · exact .inr hu
      · exact .inl hu
      · exact .inl hu
      · exact .inl (Fv _ _ _ _ _ _ u hu)
    · exact .inl (sD 0 _ _ _ u hu)
  unfold wrap
  rw [hnew]
  simp only [hfil]
  rw [if_pos ?_]
  · simp only [hρ,hτ,hmap,bP,Fz,List.nil_append]
    simp only [ren,bg,g0,g1,g2,g3,g4,g5]
  · rw [List.all_eq_true]
    intro u hu
    simp only [List.length_nil,List.range_zero,List.map_nil,au,List.append_nil,List.mem_append,tags,aU,List.not_mem_nil,false_or] at hu
    rcases VB u hu with rfl | rfl <;> rfl
theorem Td (c c2:Nat) (l:List Int) (b:List UInt8) (a:Int) (hl:l.length≤320) (hf:fine l = true) :
    Ev1 X 64 [.ro c (.pi .i64 l) 1,.ro c2 (.pb b) 2,.int .i64 a] [] (.fn 65 [.ptr 0 0 0 0,.ptr 1 0 0 0,.ptr 2 0 0 0,.ptr 3 0 0 0,.ptr 4 0 0 0,.ptr 5 0 0 0],nH c2 b a (mxL 0 l) (bf l).1 (dQ (bf l).1) l 0 0 2 0):=by
  obtain ⟨code,hbody,o,hr,ks,hk,rfl⟩:=MW c c2 l b a hl hf
  have hw:=XO (c:=c2) (b:=b) (a:=a) (m:=mxL 0 l) (n:=(bf l).1) (f:=dQ (bf l).1) hf hk
  refine Ev1.of (l:=[.fn 65 [.ptr 5 0 0 0,.ptr 1 0 0 0,.ptr 0 0 0 0,.ptr 3 0 0 0,.ptr 2 0 0 0,.ptr 4 0 0 0]]) (out:=⟨.ret,[(6,.fn 65 [.ptr 5 0 0 0,.ptr 1 0 0 0,.ptr 0 0 0 0,.ptr 3 0 0 0,.ptr 2 0 0 0,.ptr 4 0 0 0])],rdH c2 b a (bf l).1 (dQ (bf l).1) ks l (mxL 0 l)⟩) y8 Try.func64 hbody (show aH X 64 [] 0 [.ro c (.pi .i64 l) 1,.ro c2 (.pb b) 2,.int .i64 a] = some ([.ro c (.pi .i64 l) 1,.ro c2 (.pb b) 2,.int .i64 a],[⟨[],[1]⟩,⟨[],[2]⟩,⟨[],[]⟩]) from rfl) ?_ ?_ (.inr rfl) ?_ ?_
  · rw [show aB [.ro c (.pi .i64 l) 1,.ro c2 (.pb b) 2,.int .i64 a] = [] from rfl,dH]
    rfl
  · rw [show aB [.ro c (.pi .i64 l) 1,.ro c2 (.pb b) 2,.int .i64 a] = [] from rfl,dH]
    exact hr
  · rfl
  · rw [show aB [.ro c (.pi .i64 l) 1,.ro c2 (.pb b) 2,.int .i64 a] = [] from rfl,dH]
    exact hw
end Go.Proofs.Yteblpjhkgdpchaa
namespace Go.Proofs.Yteblpjhkgdpchaa
open Go.AM
theorem O9:∀ (zs:List Int),zs.Nodup→zs.map (fun x=>zs.idxOf x) = List.range zs.length:=by
  intro zs h
  refine List.ext_getElem (by simp) fun j h1 h2=>?_
  simp only [List.length_map,List.length_range] at h1 h2
  simp only [List.getElem_map,List.getElem_range]
  exact List.Nodup.idxOf_getElem h j h1
def piL (d r:Nat):List Nat:=[d,d + 1,d + 2,d + 3,d + 4,d + 5] ++ (List.range r).map fun k=>d + 6 + k
theorem VJ (d tn:Nat) (l:List Int):aB (jX.map (syV (d + 6) tn (aV l) l false)) = (List.range (aV l).length).map fun k=>d + 6 + k:=by
  rw [JK]
  have e:(jX.filter fun x=>decide (x ∈ aV l)) = aV l:=by
    unfold aV
    refine List.filter_congr fun x hx=>?_
    simp [List.mem_filter,hx]
  rw [e,← O9 (aV l) (CQ l),List.map_map]
  rfl
section
variable {c:Nat} {b:List UInt8} {a m:Int} {n f l:List Int} {t tb tn:Nat} {pre:AM.Heap}
theorem xY (k:Nat):(pre ++ nH c b a m n f l pre.length t tb tn)[pre.length + k]? = (nH c b a m n f l pre.length t tb tn)[k]?:=by
  rw [List.getElem?_append_right (by omega)]
  congr 1;omega
theorem FT (d:Nat) {k:Nat} (hk:k < (aV l).length):(nH c b a m n f l d t tb tn)[6 + k]? = some (kK (dF ((aV l)[k]) l 0) 0 t):=by
  unfold nH
  rw [List.getElem?_append_right (by simp),List.getElem?_map]
  simp only [List.length_cons,List.length_nil]
  rw [show 6 + k - 6 = k by omega,List.getElem?_eq_getElem hk]
  rfl
theorem qK (d:Nat):(nH c b a m n f l d t tb tn).length = 6 + (aV l).length:=by
  unfold nH;simp;omega
theorem VK:reach (pre ++ nH c b a m n f l pre.length t tb tn) aA [pre.length,pre.length + 1,pre.length + 2,pre.length + 3,pre.length + 4,pre.length + 5] [] = piL pre.length (aV l).length:=by
  have h0:(pre ++ nH c b a m n f l pre.length t tb tn)[pre.length]? = some (jY (.int .i64 m) t):=xY 0
  have h1:(pre ++ nH c b a m n f l pre.length t tb tn)[pre.length + 1]? = some (jY (.int .i64 a) t):=xY 1
  have h2:(pre ++ nH c b a m n f l pre.length t tb tn)[pre.length + 2]? = some (jY (.ro c (.pb b) tb) t):=xY 2
  have h3:(pre ++ nH c b a m n f l pre.length t tb tn)[pre.length + 3]? = some (oU 17 f t):=xY 3
  have h4:(pre ++ nH c b a m n f l pre.length t tb tn)[pre.length + 4]? = some (oU 16 n t):=xY 4
  have h5:(pre ++ nH c b a m n f l pre.length t tb tn)[pre.length + 5]? = some (vC (jX.map (syV (pre.length + 6) tn (aV l) l false)) t):=xY 5
  have Nk:∀ o ∈ (List.range (aV l).length).map (fun k=>pre.length + 6 + k),∃ ob,(pre ++ nH c b a m n f l pre.length t tb tn)[o]? = some (some ob)∧ob.ids = false:=by
    intro o ho
    obtain ⟨k,hk,rfl⟩:=List.mem_map.1 ho
    rw [show pre.length + 6 + k = pre.length + (6 + k) by omega,xY,FT _ (List.mem_range.1 hk)]
    exact ⟨_,rfl,rfl⟩
  have hnd:((List.range (aV l).length).map fun k=>pre.length + 6 + k).Nodup:=by
    rw [List.nodup_iff_pairwise_ne,List.pairwise_map]
    refine (List.nodup_iff_pairwise_ne.1 List.nodup_range).imp ?_
    intro x y hne e
    exact hne (by omega)
  have hend:=yS (pre ++ nH c b a m n f l pre.length t tb tn) ((List.range (aV l).length).map fun k=>pre.length + 6 + k) [pre.length,pre.length + 1,pre.length + 2,pre.length + 3,pre.length + 4,pre.length + 5] 99994 (by have:=BK l;simp;omega) Nk hnd (by
    intro o ho
    obtain ⟨k,_,rfl⟩:=List.mem_map.1 ho
    simp;omega)
  unfold piL
  show reach _ (99994 + 1 + 1 + 1 + 1 + 1 + 1) _ [] = _
  rw [← VJ pre.length tn l] at hend ⊢
  generalize pre ++ nH c b a m n f l pre.length t tb tn = H at *
  generalize pre.length = d at *
  unfold jY at h0 h1 h2
  unfold oU at h3 h4
  unfold vC at h5
  simp [reach,h0,h1,h2,h3,h4,h5,ids,aB,hend]
theorem yY (d r:Nat):piL d r = (List.range (6 + r)).map fun k=>d + k:=by
  unfold piL
  rw [List.range_add,List.map_append,List.map_map]
  congr 1
  refine List.map_congr_left fun k _=>?_
  simp only [Function.comp_apply];omega
theorem Nl (d:Nat):∀ (r k s:Nat),k < r→AM.idxOf ((List.range r).map fun j=>d + j) (d + k) s = some (s + k):=by
  intro r k s hk
  have:∀ (zs:List Nat) (s:Nat),k ∈ zs→AM.idxOf (zs.map fun j=>d + j) (d + k) s = some (s + zs.idxOf k):=by
    intro zs
    induction zs with
    | nil=>intro s h;simp at h
    | cons z r ih =>
      intro s h
      simp only [List.map_cons,AM.idxOf]
      by_cases e:z = k
      · subst e;simp
      · rw [if_neg (by omega),ih (s + 1) ((List.mem_cons.1 h).resolve_left fun w=>e w.symm),List.idxOf_cons]
        have e3:(z == k) = false:=by simpa using e
        rw [e3]
        simp
        omega
  rw [this (List.range r) s (List.mem_range.2 hk)]
  congr 2
  have h:=List.Nodup.idxOf_getElem List.nodup_range k (by simpa using hk)
  simpa using h
theorem QL {k:Nat} (hk:k < 6 + (aV l).length):∃ ob,(pre ++ nH c b a m n f l pre.length t tb tn)[pre.length + k]? = some (some ob)∧ob.g = 0:=by
  rw [xY]
  by_cases h6:k < 6
  · have:k = 0∨k = 1∨k = 2∨k = 3∨k = 4∨k = 5:=by omega
    rcases this with rfl | rfl | rfl | rfl | rfl | rfl <;> exact ⟨_,rfl,rfl⟩
  · obtain ⟨j,rfl⟩:∃ j,k = 6 + j:=⟨k - 6,by omega⟩
    rw [FT _ (by omega)]
    exact ⟨_,rfl,rfl⟩
theorem QM {k:Nat} (hk:k < 6 + (aV l).length):dB (pre ++ nH c b a m n f l pre.length t tb tn) (piL pre.length (aV l).length) (pre.length + k) 0 = some (k,0):=by
  obtain ⟨ob,h,hg⟩:=QL (c:=c) (b:=b) (a:=a) (m:=m) (n:=n) (f:=f) (t:=t) (tb:=tb) (tn:=tn) (pre:=pre) hk
  unfold dB live
  rw [h]
  simp only [hg,if_true]
  rw [yY,Nl _ _ _ _ hk]
  simp
theorem VL (ρ:Nat→Nat→Option (Nat × Nat)) (τ:Nat→Nat) (d d2 t2 tb2 tn2:Nat) (hρ:∀ k,k < (aV l).length→ρ (d + 6 + k) 0 = some (d2 + 6 + k,0)) (ht:τ t = t2) (htb:τ tb = tb2) (htn:τ tn = tn2) :
    (nH c b a m n f l d t tb tn).map (Option.map (aT ρ τ 0)) = nH c b a m n f l d2 t2 tb2 tn2:=by
  have hsy:∀ x ∈ jX,ren ρ τ (syV (d + 6) tn (aV l) l false x) = syV (d2 + 6) tn2 (aV l) l false x:=by
    intro x _
    by_cases hx:x ∈ aV l
    · have h:=hρ _ (List.idxOf_lt_length_of_mem hx)
      simp [syV,hx,ren,h]
    · simp [syV,hx,ren,htn]
  unfold nH
  rw [List.map_append]
  congr 1
  · simp only [List.map_cons,List.map_nil,jY,oU,vC,Option.map_some,aT,ren,bg,iD,ht,htb]
    rw [List.map_congr_left hsy]
  · rw [List.map_map]
    refine List.map_congr_left fun x hx=>?_
    simp only [Function.comp_apply,kK,Option.map_some,aT,ren,ht]
theorem XP (u:Nat):(piL pre.length (aV l).length).map (fun o=>(aX (pre ++ nH c b a m n f l pre.length t tb tn) o).map (aT (dB (pre ++ nH c b a m n f l pre.length t tb tn) (piL pre.length (aV l).length)) (fun _=>u) 0)) = nH c b a m n f l 0 u u u:=by
  have hob:(piL pre.length (aV l).length).map (aX (pre ++ nH c b a m n f l pre.length t tb tn)) = nH c b a m n f l pre.length t tb tn:=by
    rw [yY,List.map_map]
    refine List.ext_getElem? fun j=>?_
    by_cases hj:j < 6 + (aV l).length
    · rw [List.getElem?_map,List.getElem?_range hj]
      simp only [Option.map_some,Function.comp_apply,aX,xY]
      rw [List.getElem?_eq_getElem (by rw [qK];exact hj)]
      rfl
    · rw [List.getElem?_eq_none (by simp;omega),List.getElem?_eq_none (by rw [qK];omega)]
  have e:∀ F:AM.Obj→AM.Obj,(piL pre.length (aV l).length).map (fun o=>(aX (pre ++ nH c b a m n f l pre.length t tb tn) o).map F) = ((piL pre.length (aV l).length).map (aX (pre ++ nH c b a m n f l pre.length t tb tn))).map (Option.map F):=by
    intro F;rw [List.map_map];rfl
  rw [e,hob]
  refine VL _ _ pre.length 0 u u u (fun k hk=>?_) rfl rfl rfl
  rw [show pre.length + 6 + k = pre.length + (6 + k) by omega,QM (by omega)]
end
end Go.Proofs.Yteblpjhkgdpchaa
namespace Go.Proofs.Yteblpjhkgdpchaa
open Go.AM
theorem Np (H:AM.Heap):∀ (L acc:List Nat) (n:Nat),(∀ o ∈ L,o ∈ acc)→reach H n L acc = acc
  | [],acc,n,_=>tJ H acc n
  | o :: r,acc,0,_=>rfl
  | o :: r,acc,n + 1,h=>by
    have hc:acc.contains o = true:=List.contains_iff_mem.2 (h o (by simp))
    rw [reach,hc]
    simp only [if_true]
    exact Np H r acc n fun a ha=>h a (List.mem_cons_of_mem _ ha)
theorem Ij (H:AM.Heap):∀ (L M acc:List Nat) (n:Nat),L.length < n→(∀ o ∈ L,∃ ob,H[o]? = some (some ob)∧ob.ids = false)→L.Nodup→(∀ o ∈ L,o ∉ acc)→(∀ o ∈ M,o ∈ acc ++ L)→reach H n (L ++ M) acc = acc ++ L
  | [],M,acc,n,_,_,_,_,h=>by rw [List.nil_append,Np H M acc n (by simpa using h)];simp
  | o :: r,M,acc,0,h,_,_,_,_=>by simp at h
  | o :: r,M,acc,n + 1,h,h1,h2,h3,h4=>by
    obtain ⟨ob,ho,hob⟩:=h1 o (by simp)
    have hc:acc.contains o = false:=by
      rw [Bool.eq_false_iff]
      intro z
      exact h3 o (by simp) (List.contains_iff_mem.1 z)
    rw [List.cons_append,reach,hc]
    simp only [Bool.false_eq_true,if_false,ho,hob,List.nil_append]
    rw [Ij H r M (acc ++ [o]) n (by simpa using h) (fun a ha=>h1 a (List.mem_cons_of_mem _ ha)) (List.nodup_cons.1 h2).2 (fun a ha z=>by
      rcases List.mem_append.1 z with z | z
      · exact h3 a (List.mem_cons_of_mem _ ha) z
      · simp only [List.mem_singleton] at z
        subst z
        exact (List.nodup_cons.1 h2).1 ha) (fun a ha=>by simpa using h4 a ha)]
    simp
section
variable {c:Nat} {b:List UInt8} {a m:Int} {n f l:List Int} {t tb tn:Nat} {pre:AM.Heap}
theorem XQ (u:Nat):∀ o ∈ reach (nH c b a m n f l 0 u u u) aA (List.range (6 + (aV l).length)) [],o < 6 + (aV l).length:=by
  have h0:(nH c b a m n f l 0 u u u)[0]? = some (jY (.int .i64 m) u):=rfl
  have h1:(nH c b a m n f l 0 u u u)[1]? = some (jY (.int .i64 a) u):=rfl
  have h2:(nH c b a m n f l 0 u u u)[2]? = some (jY (.ro c (.pb b) u) u):=rfl
  have h3:(nH c b a m n f l 0 u u u)[3]? = some (oU 17 f u):=rfl
  have h4:(nH c b a m n f l 0 u u u)[4]? = some (oU 16 n u):=rfl
  have h5:(nH c b a m n f l 0 u u u)[5]? = some (vC (jX.map (syV (0 + 6) u (aV l) l false)) u):=rfl
  have Nk:∀ o ∈ (List.range (aV l).length).map (fun k=>0 + 6 + k),∃ ob,(nH c b a m n f l 0 u u u)[o]? = some (some ob)∧ob.ids = false:=by
    intro o ho
    obtain ⟨k,hk,rfl⟩:=List.mem_map.1 ho
    rw [show 0 + 6 + k = 6 + k by omega,FT _ (List.mem_range.1 hk)]
    exact ⟨_,rfl,rfl⟩
  have hnd:((List.range (aV l).length).map fun k=>0 + 6 + k).Nodup:=by
    rw [List.nodup_iff_pairwise_ne,List.pairwise_map]
    refine (List.nodup_iff_pairwise_ne.1 List.nodup_range).imp ?_
    intro x y hne e
    exact hne (by omega)
  have hr:List.range (6 + (aV l).length) = [0,1,2,3,4,5] ++ (List.range (aV l).length).map fun k=>0 + 6 + k:=by
    have:=yY 0 (aV l).length
    unfold piL at this
    rw [show (List.range (6 + (aV l).length)) = (List.range (6 + (aV l).length)).map fun k=>0 + k by simp]
    exact this.symm
  have hend:=Ij (nH c b a m n f l 0 u u u) ((List.range (aV l).length).map fun k=>0 + 6 + k) ((List.range (aV l).length).map fun k=>0 + 6 + k) [0,1,2,3,4,5] 99994 (by have:=BK l;simp;omega) Nk hnd (by
    intro o ho
    obtain ⟨k,_,rfl⟩:=List.mem_map.1 ho
    simp;omega) (fun o ho=>List.mem_append_right _ ho)
  intro o ho
  have hall:reach (nH c b a m n f l 0 u u u) aA (List.range (6 + (aV l).length)) [] = List.range (6 + (aV l).length):=by
    rw [hr]
    show reach _ (99994 + 1 + 1 + 1 + 1 + 1 + 1) _ [] = _
    rw [← VJ 0 u l] at hend ⊢
    generalize nH c b a m n f l 0 u u u = H at *
    unfold jY at h0 h1 h2
    unfold oU at h3 h4
    unfold vC at h5
    simp [reach,h0,h1,h2,h3,h4,h5,ids,aB]
    simpa using hend
  rw [hall] at ho
  exact List.mem_range.1 ho
end
end Go.Proofs.Yteblpjhkgdpchaa
namespace Go.Proofs.Yteblpjhkgdpchaa
open Go.AM
theorem CU {ρ:Nat→Nat→Option (Nat × Nat)} {τ:Nat→Nat} {H:AM.Heap} {π:List Nat} {H1:AM.Heap} {d:Nat} (F:Nat→Option AM.Obj):∀ (j k:Nat) (B:AM.Heap),
    (∀ i,k≤i→i < k + j→((aX H1 i).map fun ob=>aT ρ τ (eY H π i ob.g) ob) = F i)→∀ x:Nat,(bP ρ τ H π H1 k (List.range' (d + k) j) B)[x]? = if d + k≤x∧x < d + k + j∧x < B.length then some (F (x - d)) else B[x]?
  | 0,k,B,_,x=>by
    simp only [List.range'_zero,bP]
    rw [if_neg (by omega)]
  | j + 1,k,B,h,x=>by
    simp only [List.range'_succ,bP]
    rw [show d + k + 1 = d + (k + 1) by omega,CU F j (k + 1) _ (fun i h1 h2=>h i (by omega) (by omega)) x,h k (Nat.le_refl _) (by omega)]
    simp only [upd,List.length_set,List.getElem?_set]
    by_cases e:x = d + k
    · subst e
      rw [if_neg (by omega),if_pos rfl]
      by_cases hl:d + k < B.length
      · rw [if_pos hl,if_pos (by omega),show d + k - d = k by omega]
      · rw [if_neg hl,if_neg (by omega),List.getElem?_eq_none (by omega)]
    · have e2:¬ d + k = x:=fun z=>e z.symm
      by_cases hc:d + (k + 1)≤x∧x < d + (k + 1) + j∧x < B.length
      · rw [if_pos hc,if_pos (by omega)]
      · rw [if_neg hc,if_neg e2,if_neg (by omega)]
theorem Ap:∀ L:List Nat,(∀ u ∈ L,u = 0∨u = 2)→dU L = some (if 2 ∈ L then 2 else 0)
  | [],_=>rfl
  | u :: r,h=>by
    rw [dU,Ap r fun v hv=>h v (List.mem_cons_of_mem _ hv)]
    rcases h u (by simp) with rfl | rfl
    · by_cases hr:2 ∈ r <;> simp [hr,eH]
    · by_cases hr:2 ∈ r <;> simp [hr,eH]
section
variable {c:Nat} {b:List UInt8} {a m:Int} {n f l:List Int} {t tn:Nat} {pre:AM.Heap}
theorem QN (d tb:Nat):∀ u ∈ au (nH c b a m n f l d t tb tn),u = t∨u = tb∨u = tn:=by
  intro u hu
  unfold nH at hu
  rw [mM,List.mem_append] at hu
  rcases hu with hu | hu
  · simp only [jY,oU,vC,au,dn,if_true,tags,aU,List.mem_append,List.append_nil,List.nil_append] at hu
    simp only [Bool.false_eq_true,if_false,List.cons_append,List.nil_append,List.mem_cons,List.not_mem_nil,or_false] at hu
    rcases hu with hu | hu | hu | hu
    · exact .inr (.inl hu)
    · exact .inl hu
    · exact .inl hu
    · exact .inr (.inr (Fv _ _ _ _ _ _ u hu))
  · exact .inl (sD t _ _ _ u hu)
theorem VN (d tb:Nat):tb ∈ au (nH c b a m n f l d t tb tn):=by
  unfold nH
  rw [mM,List.mem_append]
  left
  simp [jY,oU,vC,au,dn,tags,aU]
theorem abV (d tb k:Nat):∀ ob,aX (nH c b a m n f l d t tb tn) k = some ob→ob.g = 0:=by
  intro ob h
  by_cases hk:k < 6 + (aV l).length
  · by_cases h6:k < 6
    · have:k = 0∨k = 1∨k = 2∨k = 3∨k = 4∨k = 5:=by omega
      rcases this with rfl | rfl | rfl | rfl | rfl | rfl <;> (cases h;rfl)
    · obtain ⟨j,rfl⟩:∃ j,k = 6 + j:=⟨k - 6,by omega⟩
      unfold aX at h
      rw [FT _ (by omega)] at h
      cases h;rfl
  · unfold aX at h
    rw [List.getElem?_eq_none (by rw [qK];omega)] at h
    cases h
end
end Go.Proofs.Yteblpjhkgdpchaa
namespace Go.Proofs.Yteblpjhkgdpchaa
open Go.AM
def cap6 (d:Nat):List AV:=[.ptr d 0 0 0,.ptr (d + 1) 0 0 0,.ptr (d + 2) 0 0 0,.ptr (d + 3) 0 0 0,.ptr (d + 4) 0 0 0,.ptr (d + 5) 0 0 0]
section
variable {c:Nat} {b:List UInt8} {m:Int} {n f l:List Int} {t tn:Nat} {pre:AM.Heap}
theorem Tf (a a2:Int) (v:Int × Int × Int) (ht:t = 0∨t = 2) (htn:tn = 0∨tn = 2) :
    wrap (pre ++ nH c b a m n f l pre.length t 2 tn) (piL pre.length (aV l).length) ([⟨[],[]⟩,⟨[],[]⟩,⟨[],[]⟩,⟨[],[]⟩,⟨[],[]⟩,⟨[],[]⟩] ++ [⟨[],au ((piL pre.length (aV l).length).map (aX (pre ++ nH c b a m n f l pre.length t 2 tn)))⟩]) (t3 v) (nH c b a2 m n f l 0 7 7 7) =
      some (t3 v,pre ++ nH c b a2 m n f l pre.length 2 2 2):=by
  have hpl:(piL pre.length (aV l).length).length = 6 + (aV l).length:=by rw [yY];simp
  have hob:(piL pre.length (aV l).length).map (aX (pre ++ nH c b a m n f l pre.length t 2 tn)) = nH c b a m n f l pre.length t 2 tn:=by
    rw [yY,List.map_map]
    refine List.ext_getElem? fun j=>?_
    by_cases hj:j < 6 + (aV l).length
    · rw [List.getElem?_map,List.getElem?_range hj]
      simp only [Option.map_some,Function.comp_apply,aX,xY]
      rw [List.getElem?_eq_getElem (by rw [qK];exact hj)]
      rfl
    · rw [List.getElem?_eq_none (by simp;omega),List.getElem?_eq_none (by rw [qK];omega)]
  have hjt:dU (au (nH c b a m n f l pre.length t 2 tn)) = some 2:=by
    rw [Ap _ fun u hu=>?_,if_pos (VN _ _)]
    rcases QN _ _ u hu with rfl | rfl | rfl
    · exact ht
    · exact .inr rfl
    · exact htn
  rw [hob]
  have hb7:dS ([⟨[],[]⟩,⟨[],[]⟩,⟨[],[]⟩,⟨[],[]⟩,⟨[],[]⟩,⟨[],[]⟩] ++ [⟨[],au (nH c b a m n f l pre.length t 2 tn)⟩]) 7 = some 2:=by
    show dU (au (nH c b a m n f l pre.length t 2 tn)) = some 2
    exact hjt
  have hg7:dK ([⟨[],[]⟩,⟨[],[]⟩,⟨[],[]⟩,⟨[],[]⟩,⟨[],[]⟩,⟨[],[]⟩] ++ [⟨[],au (nH c b a m n f l pre.length t 2 tn)⟩]) 7 = []:=rfl
  have hT7:bQ ([⟨[],[]⟩,⟨[],[]⟩,⟨[],[]⟩,⟨[],[]⟩,⟨[],[]⟩,⟨[],[]⟩] ++ [⟨[],au (nH c b a m n f l pre.length t 2 tn)⟩]) 7 = 2:=by unfold bQ;rw [hb7];rfl
  have hg0:dK ([⟨[],[]⟩,⟨[],[]⟩,⟨[],[]⟩,⟨[],[]⟩,⟨[],[]⟩,⟨[],[]⟩] ++ [⟨[],au (nH c b a m n f l pre.length t 2 tn)⟩]) 0 = []:=rfl
  generalize ([⟨[],[]⟩,⟨[],[]⟩,⟨[],[]⟩,⟨[],[]⟩,⟨[],[]⟩,⟨[],[]⟩] ++ [⟨[],au (nH c b a m n f l pre.length t 2 tn)⟩]:List eU) = aK at *
  have jS:ids (t3 v) = []:=rfl
  have htg:tags (t3 v) = []:=rfl
  have hK:=XQ (c:=c) (b:=b) (a:=a2) (m:=m) (n:=n) (f:=f) (l:=l) 7
  unfold wrap
  rw [jS,List.append_nil,hpl,htg]
  generalize reach (nH c b a2 m n f l 0 7 7 7) aA (List.range (6 + (aV l).length)) [] = K at hK ⊢
  have hfil:K.filter (fun o=>decide (6 + (aV l).length≤o)) = []:=by
    rw [List.filter_eq_nil_iff]
    intro o ho
    have:=hK o ho
    simp;omega
  simp only [hfil]
  have hr2:(List.range (6 + (aV l).length)).map (aX (nH c b a2 m n f l 0 7 7 7)) = nH c b a2 m n f l 0 7 7 7:=by
    refine List.ext_getElem? fun j=>?_
    by_cases hj:j < 6 + (aV l).length
    · rw [List.getElem?_map,List.getElem?_range hj]
      simp only [Option.map_some,aX]
      rw [List.getElem?_eq_getElem (by rw [qK];exact hj)]
      rfl
    · rw [List.getElem?_eq_none (by simp;omega),List.getElem?_eq_none (by rw [qK];omega)]
  rw [hr2]
  have hu7:∀ u ∈ au (nH c b a2 m n f l 0 7 7 7),u = 7:=fun u hu=>by rcases QN _ _ u hu with h | h | h <;> exact h
  have hpi:∀ i,i < 6 + (aV l).length→(piL pre.length (aV l).length)[i]? = some (pre.length + i):=by
    intro i hi
    rw [yY,List.getElem?_map,List.getElem?_range hi];rfl
  have hgen:∀ i,i < 6 + (aV l).length→eY (pre ++ nH c b a m n f l pre.length t 2 tn) (piL pre.length (aV l).length) i 0 = 0:=by
    intro i hi
    obtain ⟨ob,h1,h2⟩:=QL (c:=c) (b:=b) (a:=a) (m:=m) (n:=n) (f:=f) (t:=t) (tb:=2) (tn:=tn) (pre:=pre) hi
    unfold eY
    rw [hpi i hi]
    simp [aX,h1,h2]
  have hlen:(pre ++ nH c b a m n f l pre.length t 2 tn).length = pre.length + (6 + (aV l).length):=by rw [List.length_append,qK]
  have hρ:∀ k,k < (aV l).length→bJ (pre ++ nH c b a m n f l pre.length t 2 tn) (piL pre.length (aV l).length) [] (nH c b a2 m n f l 0 7 7 7) (0 + 6 + k) 0 = some (pre.length + 6 + k,0):=by
    intro k hk
    rw [show 0 + 6 + k = 6 + k by omega]
    unfold bJ live
    rw [FT _ hk]
    simp only [kK,if_true]
    rw [hpl,if_pos (by omega),hpi _ (by omega),Option.map_some,hgen _ (by omega)]
    rw [show pre.length + (6 + k) = pre.length + 6 + k by omega]
  have ZB:=VL (c:=c) (b:=b) (a:=a2) (m:=m) (n:=n) (f:=f) (l:=l) (t:=7) (tb:=7) (tn:=7) _ (bQ aK) 0 pre.length 2 2 2 hρ hT7 hT7 hT7
  generalize hρd:bJ (pre ++ nH c b a m n f l pre.length t 2 tn) (piL pre.length (aV l).length) [] (nH c b a2 m n f l 0 7 7 7) = ρ at *
  have hF:∀ i,0≤i→i < 0 + (6 + (aV l).length)→((aX (nH c b a2 m n f l 0 7 7 7) i).map fun ob=>aT ρ (bQ aK) (eY (pre ++ nH c b a m n f l pre.length t 2 tn) (piL pre.length (aV l).length) i ob.g) ob) = aX (nH c b a2 m n f l pre.length 2 2 2) i:=by
    intro i _ hi
    have e:(aX (nH c b a2 m n f l 0 7 7 7) i).map (fun ob=>aT ρ (bQ aK) (eY (pre ++ nH c b a m n f l pre.length t 2 tn) (piL pre.length (aV l).length) i ob.g) ob) = (aX (nH c b a2 m n f l 0 7 7 7) i).map (aT ρ (bQ aK) 0):=by
      cases ho:aX (nH c b a2 m n f l 0 7 7 7) i with
      | none=>rfl
      | some ob =>
        have:=abV _ _ _ ob ho
        simp only [Option.map_some,this,hgen i (by omega)]
    rw [e,← ZB]
    unfold aX
    rw [List.getElem?_map]
    cases (nH c b a2 m n f l 0 7 7 7)[i]? <;> rfl
  have hput:bP ρ (bQ aK) (pre ++ nH c b a m n f l pre.length t 2 tn) (piL pre.length (aV l).length) (nH c b a2 m n f l 0 7 7 7) 0 (piL pre.length (aV l).length) (pre ++ nH c b a m n f l pre.length t 2 tn) = pre ++ nH c b a2 m n f l pre.length 2 2 2:=by
    have hrg:piL pre.length (aV l).length = List.range' (pre.length + 0) (6 + (aV l).length):=by rw [yY,List.range'_eq_map_range];rfl
    conv=>lhs;arg 7;rw [hrg]
    refine List.ext_getElem? fun x=>?_
    rw [CU (fun i=>aX (nH c b a2 m n f l pre.length 2 2 2) i) _ 0 _ hF x,hlen]
    by_cases h1:x < pre.length
    · rw [if_neg (by omega),List.getElem?_append_left h1,List.getElem?_append_left h1]
    · rw [List.getElem?_append_right (by omega),List.getElem?_append_right (by omega)]
      by_cases h2:x < pre.length + (6 + (aV l).length)
      · rw [if_pos (by omega)]
        unfold aX
        rw [List.getElem?_eq_getElem (by rw [qK];omega)]
        rfl
      · rw [if_neg (by omega),List.getElem?_eq_none (by rw [qK];omega),List.getElem?_eq_none (by rw [qK];omega)]
  rw [if_pos ?_]
  · have hfm:([] ++ au (nH c b a2 m n f l 0 7 7 7) ++ au (List.map (aX (nH c b a2 m n f l 0 7 7 7)) [])).flatMap (dK aK) = []:=by
      rw [List.flatMap_eq_nil_iff]
      intro u hu
      simp only [List.map_nil,au,List.append_nil,List.nil_append] at hu
      rw [hu7 u hu,hg7]
    rw [hfm,hput]
    simp [strike,t3,ren,bg]
  · rw [List.all_eq_true]
    intro u hu
    simp only [List.map_nil,au,List.append_nil,List.nil_append] at hu
    rw [hu7 u hu,hb7];rfl
theorem XR (a:Nat) (hm:0≤m∧m≤15) (hl:l.length≤320) (hn:n.length = 16) (hf:f.length = 17) (hnv:∀ i:Nat,i < 16→n.getD i 0 = ct l i)
    (hfv:∀ i:Nat,i < 16→0≤f.getD i 0∧f.getD i 0 < 100000000) (hb:b.length≤100000) (ha:a < 9223372036854775808) (ht:t = 0∨t = 2) (htn:tn = 0∨tn = 2) :
    Ev1 X 65 (cap6 pre.length) (pre ++ nH c b (a:Nat) m n f l pre.length t 2 tn) (t3 (oV l n f b a m.toNat 1 0).1,pre ++ nH c b ((oV l n f b a m.toNat 1 0).2:Nat) m n f l pre.length 2 2 2):=by
  obtain ⟨code,hbody,hr⟩:=SS (fun _ _ _=>.none) c 7 (piL pre.length (aV l).length).length b a m n f l hm hl hn hf hnv hfv hb ha
  have hw:=Tf (c:=c) (b:=b) (m:=m) (n:=n) (f:=f) (l:=l) (t:=t) (tn:=tn) (pre:=pre) (a:Int) (((oV l n f b a m.toNat 1 0).2:Nat):Int) (oV l n f b a m.toNat 1 0).1 ht htn
  have hre:reach (pre ++ nH c b (a:Nat) m n f l pre.length t 2 tn) aA (aB (cap6 pre.length)) [] = piL pre.length (aV l).length:=VK
  have hin:=XP (c:=c) (b:=b) (a:=(a:Int)) (m:=m) (n:=n) (f:=f) (l:=l) (t:=t) (tb:=2) (tn:=tn) (pre:=pre) 7
  have hat:=fun k hk=>QM (c:=c) (b:=b) (a:=(a:Int)) (m:=m) (n:=n) (f:=f) (l:=l) (t:=t) (tb:=2) (tn:=tn) (pre:=pre) (k:=k) hk
  have a0:=hat 0 (by omega)
  have a1:=hat 1 (by omega)
  have a2:=hat 2 (by omega)
  have a3:=hat 3 (by omega)
  have a4:=hat 4 (by omega)
  have a5:=hat 5 (by omega)
  rw [Nat.add_zero] at a0
  unfold nxO at hr
  generalize oV l n f b a m.toNat 1 0 = r at *
  refine Ev1.of (l:=[.int .i64 r.1.1,.int .i64 r.1.2.1,.int .i64 r.1.2.2]) (out:=⟨.ret,[(6,.int .i64 r.1.1),(7,.int .i64 r.1.2.1),(8,.int .i64 r.1.2.2)],nH c b (r.2:Nat) m n f l 0 7 7 7⟩) Below.none Try.func65 hbody
    (show aH X 65 (pre ++ nH c b (a:Nat) m n f l pre.length t 2 tn) 0 (cap6 pre.length) = some (cap6 pre.length,[⟨[],[]⟩,⟨[],[]⟩,⟨[],[]⟩,⟨[],[]⟩,⟨[],[]⟩,⟨[],[]⟩]) from rfl) ?_ ?_ (.inr rfl) ?_ ?_
  · rfl
  · rw [hre]
    have e:bg (dB (pre ++ nH c b (a:Nat) m n f l pre.length t 2 tn) (piL pre.length (aV l).length)) (fun t=>t) (cap6 pre.length) = cap6 0:=by
      simp only [cap6,bg,ren,a0,a1,a2,a3,a4,a5]
    rw [e]
    have hx:=hin
    rw [show ((cap6 pre.length).length + 1) = 7 from rfl,hx]
    exact hr
  · rfl
  · rw [hre]
    exact hw
end
end Go.Proofs.Yteblpjhkgdpchaa
namespace Go.Proofs.Yteblpjhkgdpchaa
open Go.AM
theorem Nq (l:List Int) (hl:l.length≤320) (hf:fine l = true) (i:Nat) (hi:0 < i) (c':Int):∀ (todo pre cs:List Int),l = pre ++ todo→cs.length = todo.length →
    (∀ j,j < todo.length→cs.getD j 0 = code l (pre.length + j)) →
    jD i c' todo cs pre.length = if fst (ct l) i + ct pre i≤c' then ((dF i todo pre.length)[(c' - fst (ct l) i - ct pre i).toNat]?).map Int.toNat else none
  | [],pre,cs,e,hc,hx=>by simp [jD,dF]
  | x :: r,pre,[],e,hc,hx=>by simp at hc
  | x :: r,pre,y :: cs,e,hc,hx=>by
    have hat:l.getD pre.length 0 = x:=by rw [e];simp
    have htk:l.take pre.length = pre:=by rw [e];simp
    have hy:y = code l pre.length:=by
      have:=hx 0 (by simp)
      simpa using this
    have ea:ct (pre ++ [x]) i = ct pre i + if x = (i:Int) then 1 else 0:=by
      unfold ct;rw [List.count_append,List.count_cons];by_cases q:x = (i:Int) <;> simp [q]
    have ih:=Nq l hl hf i hi c' r (pre ++ [x]) cs (by simp [e]) (by simpa using hc) (fun j hj=>by
      have:=hx (j + 1) (by simpa using hj)
      rw [List.getD_cons_succ] at this
      rw [this]
      congr 1
      simp only [List.length_append,List.length_cons,List.length_nil];omega)
    rw [show (pre ++ [x]).length = pre.length + 1 by simp,ea] at ih
    unfold jD dF
    by_cases hxi:x = (i:Int)
    · have hyv:y = fst (ct l) i + ct pre i:=by
        rw [hy]
        simp only [code,hat,htk]
        rw [if_pos (by omega),hxi]
        rfl
      rw [if_pos hxi]
      by_cases hyc:y = c'
      · rw [if_pos ⟨hxi,hyc⟩,if_pos (by omega),show (c' - fst (ct l) i - ct pre i).toNat = 0 by omega]
        simp
      · rw [if_neg (fun z=>hyc z.2),ih,if_pos hxi]
        by_cases hle:fst (ct l) i + ct pre i≤c'
        · rw [if_pos hle,if_pos (by omega),show (c' - fst (ct l) i - ct pre i).toNat = (c' - fst (ct l) i - (ct pre i + 1)).toNat + 1 by omega,List.getElem?_cons_succ]
        · rw [if_neg hle,if_neg (by omega)]
    · rw [if_neg (fun z=>hxi z.1),ih,if_neg hxi,if_neg hxi]
      simp
theorem wO:∀ (l:List Int) (x:Int) (k j:Nat) (z:Int),(dF x l k)[j]? = some z→0≤z
  | [],x,k,j,z,h=>by simp [dF] at h
  | y :: r,x,k,j,z,h=>by
    unfold dF at h
    split at h
    · cases j with
      | zero=>simp at h;omega
      | succ j=>exact wO r x (k + 1) j z (by simpa using h)
    · exact wO r x (k + 1) j z h
theorem JO (l n f:List Int) (b:List UInt8) (a:Nat) (hl:l.length≤320) (hf:fine l = true) (hn:∀ i:Nat,i < 16→n.getD i 0 = ct l i) (hfi:∀ i:Nat,i < 16→f.getD i 0 = fst (ct l) i):∀ (k i:Nat) (code:Int),0 < i→i + k≤16 →
    (oV l n f b a k i code).1 = NI l (nD l) b a k i code
  | 0,i,code,_,_=>rfl
  | k + 1,i,code,hi,hik=>by
    have hfj:=Nq l hl hf i hi (2 * code + je b (a + i - 1)) l [] (nD l) rfl (yt l) (fun j hj=>by rw [Gv hl hf j hj];simp)
    simp only [List.length_nil] at hfj
    have hc0:ct [] i = 0:=rfl
    rw [hc0] at hfj
    have hps:((dF i l 0).length:Int) = ct l i:=by rw [wK];rfl
    unfold oV NI
    rw [hn i (by omega),hfi i (by omega)]
    by_cases hs:8 * b.length≤a + i - 1
    · have hs2:8 * (b.length:Int) - (i:Int) < a:=by omega
      rw [if_pos hs,if_pos hs2]
    · have hs2:¬ 8 * (b.length:Int) - (i:Int) < a:=by omega
      rw [if_neg hs,if_neg hs2,hfj]
      generalize 2 * code + je b (a + i - 1) = c' at *
      by_cases h0:fst (ct l) i + 0≤c'
      · rw [if_pos h0,show (c' - fst (ct l) i - 0).toNat = (c' - fst (ct l) i).toNat by omega]
        by_cases h1:c' - fst (ct l) i < ct l i
        · rw [if_pos ⟨by omega,h1⟩]
          obtain ⟨z,hz⟩:∃ z,(dF i l 0)[(c' - fst (ct l) i).toNat]? = some z:=⟨_,List.getElem?_eq_getElem (by omega)⟩
          have hz0:=wO _ _ _ _ _ hz
          rw [List.getD_eq_getElem?_getD,hz]
          simp only [Option.map_some,Option.getD_some]
          rw [show ((z.toNat:Nat):Int) = z by omega]
        · rw [if_neg (fun z=>h1 z.2),List.getElem?_eq_none (by omega)]
          exact JO l n f b a hl hf hn hfi k (i + 1) c' (by omega) (by omega)
      · rw [if_neg h0,if_neg (fun z=>h0 (by omega))]
        exact JO l n f b a hl hf hn hfi k (i + 1) c' (by omega) (by omega)
end Go.Proofs.Yteblpjhkgdpchaa
namespace Go.Proofs.Yteblpjhkgdpchaa
open Go.AM
end Go.Proofs.Yteblpjhkgdpchaa
namespace Go.Proofs.Yteblpjhkgdpchaa
open Go.AM
def BM (l:List Int) (b:List UInt8) (a:Int):Int × Int × Int :=
  if (jI l).2 = 0 then (if a < 0 then (0,0,2) else (oV l (bf l).1 (dQ (bf l).1) b a.toNat (mxL 0 l).toNat 1 0).1) else (0,0,(jI l).2)
theorem Ti (c c2:Nat) (l:List Int) (b:List UInt8) (a:Int) (h63:l.length < 9223372036854775808) (hb:b.length≤100000) (ha:a < 9223372036854775808):∃ code,Try.f62.body = some code∧∃ H,
    Run X (evT X) 62 0 code [(0,.ro c (.pi .i64 l) 1),(1,.ro c2 (.pb b) 2),(2,.int .i64 a)] []
      ⟨.ret,[(6,.int .i64 (BM l b a).1),(7,.int .i64 (BM l b a).2.1),(8,.int .i64 (BM l b a).2.2)],H⟩:=by
  refine ⟨_,rfl,?_⟩
  have hCk:=fH (y8 _ _ _ _ (DN (H:=[]) (a:=.ro c (.pi .i64 l) 1) (l:=l) rfl h63))
  unfold ckV at hCk
  unfold BM
  by_cases he:(jI l).2 = 0
  · rw [if_pos he]
    by_cases h0:a < 0
    · rw [if_pos h0]
      refine ⟨[],0,?_⟩
      simp (maxSteps:=2000000) -implicitDefEqProofs [-getElem?_pos,go_sem,eqV,ah,hCk,he,h0]
    · rw [if_neg h0]
      have hrc:=he
      rw [D6] at hrc
      obtain ⟨hl,hf⟩:=oM hrc
      have hRd:=fH (Td c c2 l b a hl hf)
      have hmx:=Az l 0 (by omega) (by omega) hf
      have hfl:(dQ (bf l).1).length = 17:=by unfold dQ;rw [kQ];rfl
      have hNx:=fH (XR (c:=c2) (b:=b) (m:=mxL 0 l) (n:=(bf l).1) (f:=dQ (bf l).1) (l:=l) (t:=0) (tn:=0) (pre:=[]) a.toNat hmx hl (jO l) hfl (fun i hi=>ug hl hf i hi)
        (fun i hi=>by
          rw [yj hl hf i (by omega)]
          have hbd:=pW (ct l) (fun j=>⟨kZ l j,by have:=BO l j;omega⟩) i
          have hp:(2:Int) ^ i≤2 ^ 15:=by
            have:=Nat.pow_le_pow_right (n:=2) (by omega) (show i≤15 by omega)
            exact_mod_cast this
          omega) hb (by omega) (.inl rfl) (.inl rfl))
      rw [show ((a.toNat:Nat):Int) = a by omega] at hNx
      simp only [List.nil_append,List.length_nil,cap6,Nat.zero_add] at hNx
      generalize oV l (bf l).1 (dQ (bf l).1) b a.toNat (mxL 0 l).toNat 1 0 = r at hNx ⊢
      unfold t3 at hNx
      refine ⟨nH c2 b (r.2:Nat) (mxL 0 l) (bf l).1 (dQ (bf l).1) l 0 2 2 2,0,?_⟩
      simp (maxSteps:=2000000) -implicitDefEqProofs [-getElem?_pos,go_sem,eqV,ah,hCk,he,h0,hRd,hNx]
  · rw [if_neg he]
    have heb:((jI l).2 != 0) = true:=by simpa using he
    refine ⟨[],0,?_⟩
    simp (maxSteps:=2000000) -implicitDefEqProofs [-getElem?_pos,go_sem,eqV,ah,hCk,he,heb]
theorem Tj (l:List Int) (b:List UInt8) (a:Int):BM l b a = rG l b a:=by
  unfold BM rG
  rw [D6]
  by_cases he:(bn l).2 = 0
  · rw [if_pos he,if_pos he]
    by_cases h0:a < 0
    · rw [if_pos h0,if_pos h0]
    · rw [if_neg h0,if_neg h0]
      obtain ⟨hl,hf⟩:=oM he
      have hmx:=Az l 0 (by omega) (by omega) hf
      rw [← TF hl hf]
      exact JO l _ _ b a.toNat hl hf (fun i hi=>ug hl hf i hi) (fun i hi=>yj hl hf i (by omega)) _ 1 0 (by omega) (by omega)
  · rw [if_neg he,if_neg he]
theorem XT (c c2:Nat) (l:List Int) (b:List UInt8) (a:Int) (h63:l.length < 9223372036854775808) (hb:b.length≤100000) (ha:a < 9223372036854775808) :
    Ev1 X 62 [.ro c (.pi .i64 l) 1,.ro c2 (.pb b) 2,.int .i64 a] [] (t3 (rG l b a),[]):=by
  obtain ⟨code,hbo,H,hr⟩:=Ti c c2 l b a h63 hb ha
  rw [Tj] at hr
  exact Ev1.plain (l:=[.int .i64 (rG l b a).1,.int .i64 (rG l b a).2.1,.int .i64 (rG l b a).2.2]) (dL X) Try.func62 hbo rfl rfl (by simp [dM]) hr (.inr rfl) rfl rfl rfl
end Go.Proofs.Yteblpjhkgdpchaa
namespace Go.Proofs.Yteblpjhkgdpchaa
open Go.AM
section
variable {c:Nat} {b:List UInt8} {mo:Int} {t:Nat} {H:AM.Heap} {o:Nat} {oa:Option Nat} {s:Is}
theorem AO {α:Type} {f n:Nat} {fn:Func} {code:Code} {xs ys:List AV} {m:PM α} {d:α} {v:α→List AV} (hF:X.P.funcs[f]? = some fn) (hb:fn.body = some code) (hrw:X.rw f 0 = false) (h:IrV c b mo t H o oa s)
    (hA:∀ π K,π.map Prod.fst = o :: oa.toList→fD X f H π K 1 xs ys) (hi:aB ys = []) (hn:xs.length + 2 = n) (hng:n < dM) (hv:∀ a,aB (v a) = []∧aU (v a) = []∧fG (v a) = true)
    (run:∀ mm E oa1,IrV c b mo n E 0 oa1 s→∃ code,fn.body = some code∧aj (jZ fun fr E'=>∃ s' oa' a,aQ X fr E' fn.results.toList = some (v a)∧IrV c b mo n E' 0 oa' s'∧(∀ x,oa1 = some x→oa' = some x)∧bV b mo m d s s' a)
      X (evT X) f mm code (numbered 0 (coerce X (.ptr 0 0 0 0 :: ys) (aF X f))) E) :
    ∃ H' oa' s' a,evT X f (.ptr o 0 0 0 :: xs) H = some (aO (v a),H')∧IrV c b mo t H' o oa' s'∧bV b mo m d s s' a∧Kpt H H' o oa oa':=by
  obtain ⟨H',oa',s',l,hE,hV,⟨a,rfl,hQ⟩,h1,h2,h3,h4⟩:=QC (Q:=fun s' l _=>∃ a,l = v a∧bV b mo m d s s' a) hF hb hrw h hA hi hn hng (by
    intro mm E hE
    obtain ⟨oN,hc2,ht⟩:=run mm E _ hE
    rw [hb] at hc2
    obtain rfl:=Option.some.inj hc2
    refine ht.mono fun o ho=>⟨ho.1,?_⟩
    obtain ⟨s',oa',a,q1,q2,q3,q4⟩:=ho.2
    obtain ⟨v1,v2,v3⟩:=hv a
    exact ⟨s',oa',v a,q1,v1,v2,v3,q2,fun h=>(by cases oa with
      | none=>exact absurd rfl h
      | some x=>exact q3 1 rfl),a,rfl,q4⟩)
  exact ⟨H',oa',s',a,hE,hV,hQ,⟨h1,h2,h3,h4⟩⟩
theorem Ir {y:UInt8} (h:IrV c b mo t H o oa s) (hs:fE b mo s) (hm:mo≤1000000):∃ H' oa' s',evT X 56 [.ptr o 0 0 0,.int .u8 (y.toNat:Nat)] H = some (.tup [],H')∧IrV c b mo t H' o oa' s'∧bV b mo (rH mo y) () s s' ()∧Kpt H H' o oa oa':=by
  obtain ⟨code,hc⟩:∃ code,Try.f56.body = some code:=⟨_,rfl⟩
  obtain ⟨H',oa',s',a,h1,h2,h3,h4⟩:=AO (f:=56) (n:=3) (xs:=[.int .u8 (y.toNat:Nat)]) (ys:=[.int .u8 (y.toNat:Nat)]) (m:=rH mo y) (d:=()) (v:=fun _=>[]) Try.func56 hc rfl h (fun π K _=>fD.flat rfl rfl fD.nil) rfl rfl (by simp [dM]) (fun _=>⟨rfl,rfl,rfl⟩) (by
    intro mm E oa1 hE
    obtain ⟨code,hc,ht⟩:=SN (m:=mm) (y:=y) hE hs hm
    refine ⟨code,hc,?_⟩
    rw [aa7]
    refine ht.mono fun o ho=>⟨ho.1,?_⟩
    obtain ⟨s',oa',q1,q2,q3⟩:=ho.2
    exact ⟨s',oa',(),rfl,q1,q2,q3⟩)
  exact ⟨H',oa',s',h1,h2,h3,h4⟩
theorem iQ {n:Nat} {I:Int} (hI:I = (n:Nat)) (h:IrV c b mo t H o oa s) (hs:fE b mo s) (hb:b.length≤100000) (hn:n≤16):∃ H' oa' s' a,evT X 45 [.ptr o 0 0 0,.int .i64 I] H = some (.int .i64 a,H')∧IrV c b mo t H' o oa' s'∧bV b mo (gV b n) 0 s s' a∧Kpt H H' o oa oa':=by
  subst hI
  obtain ⟨code,hc⟩:∃ code,Try.f45.body = some code:=⟨_,rfl⟩
  exact AO (f:=45) (n:=3) (xs:=[.int .i64 (n:Nat)]) (ys:=[.int .i64 (n:Nat)]) (m:=gV b n) (d:=0) (v:=fun a=>[.int .i64 a]) Try.func45 hc rfl h (fun π K _=>fD.flat rfl rfl fD.nil) rfl rfl (by simp [dM]) (fun _=>⟨rfl,rfl,rfl⟩) (by
    intro mm E oa1 hE
    obtain ⟨code,hc,ht⟩:=OW (m:=mm) hE hs hb hn
    refine ⟨code,hc,?_⟩
    rw [aa4]
    exact ht)
theorem evL {f:Nat} {args ls:List AV} {H:AM.Heap} {v:AV} {N:AM.Heap} (h:Ev1 X f ls [] (v,N)) (hl:∃ xs,aH X f H 0 args = some (ls,xs)) (hi:aB ls = []) (hcv:vK v = true) (hcN:qo N = true) :
    evT X f args H = some (cu H.length v,H ++ kP H.length N):=by
  obtain ⟨xs,hl⟩:=hl
  exact fH (Ev1.ZC h hl hi hcv hcN)
theorem ZL {a a2:AV} {l:List Int} (h:eG H a = some (.pi .i64 l)) (h2:eG H a2 = some (.pb b)) {x:Int} (h63:l.length < 9223372036854775808) (hb:b.length≤100000) (hx:x < 9223372036854775808):evT X 62 [a,a2,.int .i64 x] H = some (t3 (rG l b x),H):=by
  have hx3:=ny (C:=X) (f:=62) (i:=2) (a:=.int .i64 x) (H:=H) rfl rfl (fV 3)
  obtain ⟨c2,x2,hx2⟩:=iM (C:=X) (f:=62) (i:=1) rfl h2 hx3
  obtain ⟨c,x1,hx1⟩:=iM (C:=X) (f:=62) (i:=0) rfl h hx2
  have:=evL (XT c c2 l b x h63 hb hx) ⟨_,hx1⟩ rfl rfl rfl
  simpa [t3,cu,ren,bg,kP] using this
theorem JI {a:AV} {l:List Int} (h:eG H a = some (.pi .i64 l)) (h63:l.length < 9223372036854775808):evT X 50 [a] H = some (.tup [.bool (bn l).1,.int .i64 (bn l).2],H):=by
  have:=fH (y8 _ _ _ _ (DN h h63))
  unfold ckV at this
  rwa [D6] at this
theorem QO (l codes:List Int) (b:List UInt8) (a:Nat) (o:List UInt8):∀ (f i:Nat) (x:Int),1≤i →
    (∃ j n:Nat,NI l codes b a f i x = ((j:Int),(n:Int),0)∧decP b l codes f i x (a + i - 1) o = .ok j (a + n) o) ∨
    (∃ e:Int,e ≠ 0∧NI l codes b a f i x = (0,0,e)∧decP b l codes f i x (a + i - 1) o = .err e)
  | 0,i,x,_=>.inr ⟨5,by simp,rfl,rfl⟩
  | f + 1,i,x,hi=>by
    unfold NI decP dG vS
    by_cases hs:8 * b.length - (i:Int) < a
    · rw [if_pos hs,if_neg (by omega)]
      exact .inr ⟨4,by simp,rfl,rfl⟩
    · rw [if_neg hs,if_pos (by omega)]
      simp only
      cases hf:jD i (2 * x + je b (a + i - 1)) l codes 0 with
      | some j=>exact .inl ⟨j,i,rfl,by simp only [nJ];rw [show a + i - 1 + 1 = a + i by omega]⟩
      | none =>
        have:=QO l codes b a o f (i + 1) (2 * x + je b (a + i - 1)) (by omega)
        rw [show a + (i + 1) - 1 = a + i - 1 + 1 by omega] at this
        exact this
theorem VO (l:List Int) (b:List UInt8) (k:Nat) (o:List UInt8) :
    (∃ j n:Nat,rG l b (k:Nat) = ((j:Int),(n:Int),0)∧uh b l k o = .ok j (k + n) o) ∨
    (∃ e:Int,e ≠ 0∧rG l b (k:Nat) = (0,0,e)∧uh b l k o = .err e):=by
  unfold rG uh
  by_cases he:(bn l).2 = 0
  · rw [if_pos he,if_pos he,if_neg (by omega)]
    unfold Z4
    rw [Int.toNat_natCast]
    exact QO l (gI l) b k o _ 1 0 (Nat.le_refl 1)
  · rw [if_neg he,if_neg he]
    exact .inr ⟨_,he,rfl,rfl⟩
theorem Nr {m cl:Nat} {l:List Int} {E:AM.Heap} (h:IrV c b mo t E 0 oa s) (hs:fE b mo s) (hb:b.length≤100000) (hl:l.length < 9223372036854775808):∃ code,Try.f57.body = some code ∧
    aj (jZ fun fr E'=>∃ s' oa',∃ a:Nat,aQ X fr E' Try.f57.results.toList = some [.int .i64 (a:Nat)]∧IrV c b mo t E' 0 oa' s'∧(∀ x,oa = some x→oa' = some x)∧bV b mo (uh b l) 0 s s' a) X (evT X) 57 m code [(0,.ptr 0 0 0 0),(1,.ro cl (.pi .i64 l) 2)] E:=by
  refine ⟨_,rfl,?_⟩
  obtain ⟨⟨vo,τ1,τ,a1,a2,h0,ho⟩,hne⟩:=id h
  apply aj.seq
  · (refine ⟨0,?_⟩;conv=>lhs;simp (maxSteps:=2000000) -implicitDefEqProofs [-getElem?_pos,go_sem,eqV,ah,ak])
  by_cases he:s.e = 0
  · apply aj.seq
    · simp only [bF,he] at h0
      (refine ⟨0,?_⟩;conv=>lhs;simp (maxSteps:=2000000) -implicitDefEqProofs [-getElem?_pos,go_sem,eqV,ah,h0])
    have hR:=ZL (H:=E) (a:=.ro cl (.pi .i64 l) 2) (a2:=.ro c (.pb b) τ1) (l:=l) (b:=b) (x:=(s.k:Nat)) rfl rfl hl hb (by have:=hs.1;omega)
    have hup:=(zq l).up b mo s.k s.o
    rcases VO l b s.k s.o with ⟨j,n,hr,hm⟩ | ⟨e,hne0,hr,hm⟩
    · obtain ⟨u1,u2,_,_⟩:=hup _ _ _ hm hs.1
      rw [hr] at hR
      refine aj.of (o:=⟨.ret,[(4,.int .i64 (j:Nat))],AM.upd E 0 (some (bF c b mo ⟨s.k + n,s.o,0⟩ vo τ1 τ))⟩) ?_ ⟨.inr rfl,⟨s.k + n,s.o,0⟩,oa,j,rfl,IrV.set hne a1 a2 h.lt.1 ho,fun a ha=>ha,bV.PX ⟨u2,hs.2⟩ he hm⟩
      have w:IntKind.i64.wrap ((s.k:Int) + (n:Int)) = ((s.k + n:Nat):Int):=by rw [wrap_i64 (by omega) (by omega)];omega
      refine ⟨0,?_⟩
      simp only [bF,he,t3] at h0 hR ⊢
      generalize s.k + n = k1 at *
      simp (maxSteps:=2000000) -implicitDefEqProofs [-getElem?_pos,go_sem,eqV,ah,h0,hR,w,ak]
    · rw [hr] at hR
      have hV0:IrV c b mo t E 0 oa s:=h
      obtain ⟨E2,oa2,hE2,hV2,hk2⟩:=qy (e:=e) h
      have hfs:fP s e = { s with e:=e }:=by unfold fP;rw [if_pos he]
      rw [hfs] at hV2
      obtain ⟨⟨vo2,τ3,τ4,b1,b2,h02,ho2⟩,hne2⟩:=id hV2
      refine aj.of (o:=⟨.ret,[(4,.int .i64 (0:Nat))],AM.upd E2 0 (some (bF c b mo { s with e:=e } vo2 τ3 τ4))⟩) ?_ ⟨.inr rfl,{ s with e:=e },oa2,0,rfl,IrV.set hne2 b1 b2 hV2.lt.1 ho2,hk2.same,bV.Eb (e:=e) ⟨hs.1,hs.2⟩ he hm rfl hne0⟩
      have w:IntKind.i64.wrap ((s.k:Int) + 0) = ((s.k:Nat):Int):=by rw [wrap_i64 (by have:=hs.1;omega) (by have:=hs.1;omega)];omega
      have w2:IntKind.i64.wrap ((s.k:Nat):Int) = ((s.k:Nat):Int):=by rw [wrap_i64 (by have:=hs.1;omega) (by have:=hs.1;omega)]
      have heb:(e != 0) = true:=by simpa using hne0
      refine ⟨0,?_⟩
      simp only [bF,he,t3] at h0 h02 hR ⊢
      simp (maxSteps:=2000000) -implicitDefEqProofs [-getElem?_pos,go_sem,eqV,ah,h0,h02,hR,hE2,heb,hne0,w,w2,ak]
  · refine aj.of (o:=⟨.ret,[(4,.int .i64 (0:Nat))],E⟩) ?_ ⟨.inr rfl,s,oa,0,rfl,h,fun a ha=>ha,bV.stop hs he⟩
    have heb:(s.e != 0) = true:=by simpa using he
    refine ⟨0,?_⟩
    simp only [bF] at h0
    simp (maxSteps:=2000000) -implicitDefEqProofs [-getElem?_pos,go_sem,eqV,ah,h0,he,heb,ak]
theorem AQ {l:List Int} {a:AV} (h:IrV c b mo t H o oa s) (hs:fE b mo s) (hb:b.length≤100000) (ha:eG H a = some (.pi .i64 l)) (hd:∀ x ∈ slO a,x ≠ o∧∀ y,oa = some y→x ≠ y) (hl:l.length < 9223372036854775808):∃ H' oa' s',∃ j:Nat,evT X 57 [.ptr o 0 0 0,a] H = some (.int .i64 (j:Nat),H')∧IrV c b mo t H' o oa' s'∧bV b mo (uh b l) 0 s s' j∧Kpt H H' o oa oa':=by
  obtain ⟨code,hc⟩:∃ code,Try.f57.body = some code:=⟨_,rfl⟩
  refine AO (f:=57) (n:=3) (xs:=[a]) (ys:=[.ro (tY H a) (.pi .i64 l) 2]) (m:=uh b l) (d:=0) (v:=fun j:Nat=>[.int .i64 (j:Nat)]) Try.func57 hc rfl h (fun π K hπ=>fD.TV rfl ha rfl ?_ fD.nil) rfl rfl (by simp [dM]) (fun _=>⟨rfl,rfl,rfl⟩) ?_
  · rw [hπ]
    refine gZ.2 ?_
    intro x hx hx2
    obtain ⟨h1,h2⟩:=hd x hx
    rcases List.mem_cons.1 hx2 with h3 | h3
    · exact h1 h3
    · exact h2 x (by simpa using h3) rfl
  · intro mm E oa1 hE
    obtain ⟨code,hc,ht⟩:=Nr (m:=mm) (cl:=tY H a) hE hs hb hl
    refine ⟨code,hc,?_⟩
    rw [aa8]
    exact ht
end
end Go.Proofs.Yteblpjhkgdpchaa
namespace Go.Proofs.Yteblpjhkgdpchaa
open Go.AM
theorem XU {T e:Nat} {H:AM.Heap} (hT:und X T = .slice e) (hs:sizeT X e = 1) (hb:bK X e = 8) (hz:bW X e = true) {o g t:Nat} {ob:AM.Obj} {l:List Int} {y:Int}
    (ho:H[o]? = some (some ob)) (h:RwT (.pi .i64 l) g t ob) (hn:l.length≤10000000) :
    ∃ ob',RwT (.pi .i64 (l ++ [y])) (g + 1) t ob'∧dw X H T (.sl o 0 l.length g) (.ro 1 (.pi .i64 [y]) 0) = some (.sl o 0 (l.length + 1) (g + 1),upd H o (some ob')):=by
  have hlive:live H o g = some ob:=by simp [live,ho,h.g]
  have hroom:gB X e (l.length + 1) = true:=by simp [gB,hb];omega
  have hj:eH t 0 = some t:=by
    unfold eH
    by_cases h0:t = 0
    · rw [if_pos h0,h0]
    · rw [if_neg h0,if_pos (.inl rfl)]
  have hsrc:mO H (.ro 1 (.pi .i64 [y]) 0) = some (.pi .i64 [y],0):=by simp [mO,ql,sF]
  refine ⟨{ ob with p:=.pi .i64 (l ++ [y]),g:=g + 1,cap:=(match ob.cap with | some c=>if 0 + l.length + AM.ah (.pi .i64 [y])≤c then some (c - 0) else none | none=>none),z:=(if AM.ah ob.p = 0 then ob.z else 1),tg:=t },⟨rfl,rfl,h.row,h.ids,rfl⟩,?_⟩
  unfold dw
  simp only [hT,hs,hz,hsrc,hlive,h.row,h.ids,h.p,h.tg]
  simp only [show ¬ ((1:Nat) = 0∨true = false) by simp,if_false]
  have hc:True∧True∧0 + l.length = AM.ah (.pi .i64 l)∧aN (.pi .i64 l) = 1∧gB X e (l.length + AM.ah (.pi .i64 [y])) = true:=⟨trivial,trivial,by simp [AM.ah],rfl,by simpa [AM.ah] using hroom⟩
  rw [if_pos hc]
  simp only [jv,Nat.zero_add,Nat.le_refl,if_true,List.drop_zero,List.take_length,rM,hj,aN]
  simp [AM.ah]
  rfl
def LsV (t:Nat) (H:AM.Heap) (la:Option Nat) (lv:AV) (l:List Int):Prop:=match la with
  | none=>l = []∧∃ τ,(τ = 0∨τ = t)∧lv = .ro 0 .pn τ
  | some a=>∃ g τ ob,(τ = 0∨τ = t)∧lv = .sl a 0 l.length g∧H[a]? = some (some ob)∧RwT (.pi .i64 l) g τ ob
def bxO (v:AV) (τ:Nat):AM.Obj:=⟨.pc [v],0,some 1,1,false,true,τ⟩
structure AgV (c:Nat) (b:List UInt8) (mo n:Int) (t:Nat) (H:AM.Heap) (lb nb rb o:Nat) (la oa:Option Nat) (acc:List Int) (s:Is):Prop where
  l:∃ lv τ,(τ = 0∨τ = t)∧H[lb]? = some (some (bxO lv τ))∧LsV t H la lv acc
  n:∃ τ,(τ = 0∨τ = t)∧H[nb]? = some (some (bxO (.int .i64 n) τ))
  r:∃ τ,(τ = 0∨τ = t)∧H[rb]? = some (some (bxO (.ptr o 0 0 0) τ))
  d:IrV c b mo t H o oa s
  nd:([lb,nb,rb,o] ++ la.toList ++ oa.toList).Nodup
structure AgS (c:Nat) (b:List UInt8) (mo n:Int) (S:List AM.Obj) (lb nb rb o:Nat) (la oa:Option Nat) (acc:List Int) (s:Is):Prop where
  l:S[lb]? = some (bxO (match la with | none=>.ro 0 .pn 0 | some a=>.sl a 0 acc.length 0) 0)
  pl:match la with | none=>acc = [] | some a=>S[a]? = some ⟨.pi .i64 acc,0,none,0,true,false,0⟩
  n:S[nb]? = some (bxO (.int .i64 n) 0)
  r:S[rb]? = some (bxO (.ptr o 0 0 0) 0)
  d:S[o]? = some (bF c b mo s (match oa with | none=>.ro 0 .pn 0 | some a=>.sl a 0 s.o.length 0) 0 0)
  po:match oa with | none=>s.o = [] | some a=>S[a]? = some ⟨.pb s.o,0,none,0,true,false,0⟩
  nd:([lb,nb,rb,o] ++ la.toList ++ oa.toList).Nodup
section
variable {c:Nat} {b:List UInt8} {mo n:Int} {t:Nat} {H:AM.Heap} {lb nb rb o:Nat} {la oa:Option Nat} {acc:List Int} {s:Is} {π:List (Nat × Nat)} {S:List AM.Obj}
theorem Img.bx1 (h:Img t H π S) {k:Nat} {v:AV} (hk:S[k]? = some (bxO v 0)):π[k]? = some (sg π k,0)∧∃ x τ,(τ = 0∨τ = t)∧H[sg π k]? = some (some (bxO x τ))∧ren idN tz x = ren (eu π) tz v∧∀ u ∈ tags x,u = 0∨u = t:=by
  obtain ⟨o,g,ob,h1,h2,h3⟩:=h.ob k _ hk
  obtain ⟨rfl,p,τ,rfl,hτ,hp,ht⟩:=Like.box h3
  have hs:=jo h1
  rw [hs]
  simp only [ren,bg] at hp
  obtain ⟨l1,rfl,k1⟩:=yL hp
  obtain ⟨x,l2,rfl,e1,k2⟩:=fM k1
  obtain rfl:=pV k2
  exact ⟨h1,x,τ,hτ,h2,e1,fun u hu=>ht u (by simpa [tags,aU] using hu)⟩
theorem VP (h:Img t H π S) {l:List Nat} (hn:l.Nodup) (hl:∀ x ∈ l,x < S.length):(l.map (sg π)).Nodup:=by
  rw [List.nodup_iff_pairwise_ne,List.pairwise_map]
  refine List.Pairwise.imp_of_mem ?_ (List.nodup_iff_pairwise_ne.1 hn)
  intro a b ha hb hne e
  exact hne (h.JL (hl a ha) (hl b hb) e)
theorem AgV.nM (h:Img t H π S) (hs:AgS c b mo n S lb nb rb o la oa acc s):AgV c b mo n t H (sg π lb) (sg π nb) (sg π rb) (sg π o) (la.map (sg π)) (oa.map (sg π)) acc s:=by
  have hlt:∀ {k:Nat} {x:AM.Obj},S[k]? = some x→k < S.length:=fun h=>eP h
  have hnd:(([lb,nb,rb,o] ++ la.toList ++ oa.toList).map (sg π)).Nodup:=by
    refine VP h hs.nd ?_
    intro x hx
    simp only [List.mem_append,List.mem_cons,List.not_mem_nil,or_false] at hx
    rcases hx with ((rfl | rfl | rfl | rfl) | hx) | hx
    · exact hlt hs.l
    · exact hlt hs.n
    · exact hlt hs.r
    · exact hlt hs.d
    · cases la with
      | none=>simp at hx
      | some a=>simp at hx;subst hx;exact hlt hs.pl
    · cases oa with
      | none=>simp at hx
      | some a=>simp at hx;subst hx;exact hlt hs.po
  have abC:([sg π lb,sg π nb,sg π rb,sg π o] ++ (la.map (sg π)).toList ++ (oa.map (sg π)).toList).Nodup:=by
    cases la <;> cases oa <;> simpa using hnd
  refine ⟨?_,?_,?_,⟨?_,?_⟩,abC⟩
  · obtain ⟨_,x,τ,hτ,hb,hx,ht⟩:=Img.bx1 h hs.l
    refine ⟨x,τ,hτ,hb,?_⟩
    have hla:=hs.pl
    cases la with
    | none =>
      simp only [ren] at hx
      obtain ⟨τ2,rfl⟩:=yM hx
      exact ⟨hla,τ2,ht τ2 (by simp [tags]),rfl⟩
    | some a =>
      obtain ⟨o2,g2,ob,p1,p2,p3⟩:=h.ob a _ hla
      simp only [ren,eu,p1] at hx
      obtain rfl:=EU hx
      obtain ⟨q1,q2⟩:=Like.row' p3 rfl
      exact ⟨g2,ob.tg,ob,q2,by rw [jo p1],by rw [jo p1];exact p2,q1⟩
  · obtain ⟨_,x,τ,hτ,hb,hx,ht⟩:=Img.bx1 h hs.n
    simp only [ren] at hx
    obtain rfl:=rC hx
    exact ⟨τ,hτ,hb⟩
  · obtain ⟨_,x,τ,hτ,hb,hx,ht⟩:=Img.bx1 h hs.r
    obtain ⟨o2,g2,ob,p1,p2,p3⟩:=h.ob o _ hs.d
    have hg:=(p3.bx rfl).2.2
    subst hg
    simp only [ren,eu,p1] at hx
    obtain rfl:=XL hx
    exact ⟨τ,hτ,by rw [jo p1];exact hb⟩
  · obtain ⟨o2,g2,ob,p1,p2,p3⟩:=h.ob o _ hs.d
    rw [jo p1]
    obtain ⟨rfl,p,τ,rfl,hτ,hp,ht⟩:=Like.box p3
    simp only [ren,bg] at hp
    obtain ⟨l1,rfl,k1⟩:=yL hp
    obtain ⟨x1,l2,rfl,e1,k2⟩:=fM k1
    obtain ⟨x2,l3,rfl,e2,k3⟩:=fM k2
    obtain ⟨x3,l4,rfl,e3,k4⟩:=fM k3
    obtain ⟨x4,l5,rfl,e4,k5⟩:=fM k4
    obtain ⟨x5,l6,rfl,e5,k6⟩:=fM k5
    obtain rfl:=pV k6
    obtain ⟨τ1,rfl⟩:=yM e1
    obtain rfl:=rC e2
    obtain rfl:=rC e4
    obtain rfl:=rC e5
    have hτ1:τ1 = 0∨τ1 = t:=ht τ1 (by simp [tags,aU])
    refine ⟨x3,τ1,τ,hτ1,hτ,p2,?_⟩
    have hoa:=hs.po
    cases oa with
    | none =>
      simp only [ren] at e3
      obtain ⟨τ2,rfl⟩:=yM e3
      exact ⟨hoa,τ2,ht τ2 (by simp [tags,aU]),rfl⟩
    | some a =>
      obtain ⟨o3,g3,ob3,r1,r2,r3⟩:=h.ob a _ hoa
      simp only [ren,eu,r1] at e3
      obtain rfl:=EU e3
      obtain ⟨q1,q2⟩:=Like.row' r3 rfl
      exact ⟨g3,ob3.tg,ob3,q2,by rw [jo r1],by rw [jo r1];exact r2,q1⟩
  · intro a ha
    cases oa with
    | none=>cases ha
    | some a' =>
      simp only [Option.map_some,Option.some.injEq] at ha
      subst ha
      intro e
      have:=h.JL (hlt hs.po) (hlt hs.d) e
      subst this
      have hn:=hs.nd
      cases la <;> simp at hn
end
end Go.Proofs.Yteblpjhkgdpchaa
namespace Go.Proofs.Yteblpjhkgdpchaa
open Go.AM
def agR (n:Int) (acc:List Int) (x:Int) (k:Nat) (s:Is):List Int × Is:=if n < (acc.length + k:Nat) then (acc,fP s 5) else (acc ++ List.replicate k x,s)
section
variable {c:Nat} {b:List UInt8} {mo n:Int} {t:Nat} {H:AM.Heap} {lb nb rb o:Nat} {la oa:Option Nat} {acc:List Int} {s:Is}
theorem AgV.ne (h:AgV c b mo n t H lb nb rb o la oa acc s):lb ≠ nb∧lb ≠ rb∧lb ≠ o∧nb ≠ rb∧nb ≠ o∧rb ≠ o∧(∀ a,la = some a→lb ≠ a∧nb ≠ a∧rb ≠ a∧o ≠ a∧∀ x,oa = some x→a ≠ x)∧(∀ a,oa = some a→lb ≠ a∧nb ≠ a∧rb ≠ a∧o ≠ a):=by
  have hn:=h.nd
  refine ⟨?_,?_,?_,?_,?_,?_,?_,?_⟩
  · intro e;subst e;simp at hn
  · intro e;subst e;simp at hn
  · intro e;subst e;simp at hn
  · intro e;subst e;simp at hn
  · intro e;subst e;simp at hn
  · intro e;subst e;simp at hn
  · intro a ha
    subst ha
    refine ⟨?_,?_,?_,?_,?_⟩
    · intro e;subst e;simp at hn
    · intro e;subst e;simp at hn
    · intro e;subst e;simp at hn
    · intro e;subst e;simp at hn
    · intro x hx e
      subst hx e
      simp at hn
  · intro a ha
    subst ha
    refine ⟨?_,?_,?_,?_⟩
    · intro e;subst e;simp at hn
    · intro e;subst e;simp at hn
    · intro e;subst e;simp at hn
    · intro e;subst e;simp at hn
theorem LsV.at' {lv:AV} (h:LsV t H la lv acc):∀ a,la = some a→a < H.length:=by
  intro a ha
  subst ha
  obtain ⟨g,τ,ob,_,_,h3,_⟩:=h
  exact eP h3
theorem LsV.keep {H':AM.Heap} {lv:AV} (h:LsV t H la lv acc) (hk:∀ a,la = some a→H'[a]? = H[a]?):LsV t H' la lv acc:=by
  cases la with
  | none=>exact h
  | some a =>
    obtain ⟨g,τ,ob,h1,h2,h3,h4⟩:=h
    exact ⟨g,τ,ob,h1,h2,by rw [hk a rfl];exact h3,h4⟩
theorem AgV.lt (h:AgV c b mo n t H lb nb rb o la oa acc s):lb < H.length∧nb < H.length∧rb < H.length∧o < H.length∧(∀ a,la = some a→a < H.length)∧(∀ a,oa = some a→a < H.length):=by
  obtain ⟨lv,τ,_,hb,hl⟩:=h.l
  obtain ⟨τ2,_,hb2⟩:=h.n
  obtain ⟨τ3,_,hb3⟩:=h.r
  exact ⟨eP hb,eP hb2,eP hb3,h.d.lt.1,hl.at',h.d.lt.2⟩
theorem AgV.reader {H':AM.Heap} {oa':Option Nat} {s':Is} (h:AgV c b mo n t H lb nb rb o la oa acc s) (hV:IrV c b mo t H' o oa' s') (hk:Kpt H H' o oa oa'):AgV c b mo n t H' lb nb rb o la oa' acc s':=by
  obtain ⟨n1,n2,n3,n4,n5,n6,n7,n8⟩:=h.ne
  obtain ⟨l1,l2,l3,l4,l5,l6⟩:=h.lt
  have k1:=hk.rest lb l1 n3 (fun a ha=>(n8 a ha).1)
  have k2:=hk.rest nb l2 n5 (fun a ha=>(n8 a ha).2.1)
  have k3:=hk.rest rb l3 n6 (fun a ha=>(n8 a ha).2.2.1)
  have k4:∀ a,la = some a→H'[a]? = H[a]?:=fun a ha=>hk.rest a (l5 a ha) (Ne.symm (n7 a ha).2.2.2.1) (fun x hx=>(n7 a ha).2.2.2.2 x hx)
  refine ⟨?_,?_,?_,hV,?_⟩
  · obtain ⟨lv,τ,h1,h2,h3⟩:=h.l
    exact ⟨lv,τ,h1,by rw [k1];exact h2,h3.keep k4⟩
  · obtain ⟨τ,h1,h2⟩:=h.n
    exact ⟨τ,h1,by rw [k2];exact h2⟩
  · obtain ⟨τ,h1,h2⟩:=h.r
    exact ⟨τ,h1,by rw [k3];exact h2⟩
  · cases ho:oa with
    | some a =>
      have:=hk.same a ho
      rw [this,← ho]
      exact h.nd
    | none =>
      cases ho':oa' with
      | none=>rw [← ho];exact h.nd
      | some a =>
        have hg:=hk.new a ho ho'
        have hn:=h.nd
        rw [ho] at hn
        simp only [Option.toList_none,List.append_nil] at hn
        rw [List.nodup_append]
        refine ⟨hn,by simp,?_⟩
        intro x hx y hy
        simp only [Option.toList_some,List.mem_singleton] at hy
        subst hy
        simp only [List.mem_append,List.mem_cons,List.not_mem_nil,or_false] at hx
        rcases hx with (rfl | rfl | rfl | rfl) | hx
        · omega
        · omega
        · omega
        · omega
        · cases la with
          | none=>simp at hx
          | some z=>simp at hx;subst hx;have:=l5 _ rfl;omega
theorem LsV.app {lv:AV} (y:Int) (h:LsV t H la lv acc) (hl:acc.length≤1000000):∃ lv' H' la',dw X H 41 lv (.ro 1 (.pi .i64 [y]) 0) = some (lv',H')∧LsV t H' la' lv' (acc ++ [y])∧(∀ a,la = some a→la' = some a)∧(la = none→la' = some H.length)∧H.length≤H'.length ∧
    (∀ j,j < H.length→(∀ a,la = some a→j ≠ a)→H'[j]? = H[j]?)∧∃ a g,lv' = .sl a 0 (acc ++ [y]).length g:=by
  cases la with
  | none =>
    obtain ⟨rfl,τ,hτ,rfl⟩:=h
    have hat:(H ++ [some (⟨.pi .i64 [y],0,none,0,true,false,0⟩:AM.Obj)])[H.length]? = some (some ⟨.pi .i64 [y],0,none,0,true,false,0⟩):=by simp
    refine ⟨.sl H.length 0 1 0,H ++ [some ⟨.pi .i64 [y],0,none,0,true,false,0⟩],some H.length,?_,⟨0,0,_,.inl rfl,rfl,hat,⟨rfl,rfl,rfl,rfl,rfl⟩⟩,fun a h=>(by cases h),fun _=>rfl,by simp,fun j hj _=>List.getElem?_append_left hj,_,_,rfl⟩
    simp only [dw,HY,size3,SC]
    simp [mO,ql,ah,sF,gB,rM,bM,aN]
  | some a =>
    obtain ⟨g,τ,ob,hτ,rfl,ho,hw⟩:=h
    obtain ⟨ob',w1,w2⟩:=XU (y:=y) (T:=41) (e:=3) HY size3 bytes3 SC ho hw (by omega)
    refine ⟨_,_,some a,w2,⟨g + 1,τ,ob',hτ,by simp,setAt ho,w1⟩,fun a' h=>h,fun h=>(by cases h),by simp [AM.upd],fun j hj hja=>by unfold AM.upd;rw [List.getElem?_set_ne (Ne.symm (hja a rfl))],a,g + 1,by simp⟩
def yZ (x:Int) (lb k i:Nat):AM.Frame:=[(0,.int .i64 x),(2,.ptr lb 0 0 0),(15,.int .i64 (k:Nat)),(16,.int .i64 (i:Nat))]
theorem abW {m k i:Nat} {x:Int} {d:Bool} {E:AM.Heap} (h:AgV c b mo n t E lb nb rb o la oa acc s) (hl:acc.length≤1000000):∃ E' la',AgV c b mo n t E' lb nb rb o la' oa (acc ++ [x]) s∧(∀ a,la = some a→la' = some a)∧(la = none→∀ a,la' = some a→E.length≤a)∧E.length≤E'.length ∧
    ∃ code,((Try.f63.body).bind (aI [1,1,0,0,1,1,0,0])) = some code∧Run X (evT X) 63 m code (yZ x lb k i ++ [(17,.bool d)]) E ⟨.normal,yZ x lb k i,E'⟩:=by
  obtain ⟨n1,n2,n3,n4,n5,n6,n7,n8⟩:=h.ne
  obtain ⟨l1,l2,l3,l4,l5,l6⟩:=h.lt
  obtain ⟨lv,τ,hτ,hb,hL⟩:=h.l
  obtain ⟨lv',E1,la',hA,hL',hm,hnw,hlen,hk,a,g,hlv⟩:=hL.app x hl
  have hb':E1[lb]? = some (some (bxO lv τ)):=by rw [hk lb l1 (fun a ha=>(n7 a ha).1)];exact hb
  have hla:∀ a,la' = some a→a ≠ lb:=by
    intro a ha e
    cases hq:la with
    | none=>rw [hnw hq] at ha;cases ha;omega
    | some z=>rw [hm z hq] at ha;cases ha;exact (n7 _ hq).1 e.symm
  have hrd:IrV c b mo t E1 o oa s:=h.d.keep (hk o l4 (fun a ha=>(n7 a ha).2.2.2.1)) fun a ha=>hk a (l6 a ha) (fun z hz=>Ne.symm ((n7 z hz).2.2.2.2 a ha))
  refine ⟨AM.upd E1 lb (some (bxO lv' τ)),la',⟨⟨lv',τ,hτ,setAt hb',hL'.keep fun a ha=>by unfold AM.upd;rw [List.getElem?_set_ne (Ne.symm (hla a ha))]⟩,?_,?_,hrd.other n3 (fun a ha=>(n8 a ha).1),?_⟩,hm,?_,by simp [AM.upd];exact hlen,_,rfl,?_⟩
  · obtain ⟨τ2,h1,h2⟩:=h.n
    exact ⟨τ2,h1,vG (by rw [hk nb l2 (fun a ha=>(n7 a ha).2.1)];exact h2) n1⟩
  · obtain ⟨τ2,h1,h2⟩:=h.r
    exact ⟨τ2,h1,vG (by rw [hk rb l3 (fun a ha=>(n7 a ha).2.2.1)];exact h2) n2⟩
  · cases hq:la with
    | some z=>rw [hm z hq,← hq];exact h.nd
    | none =>
      rw [hnw hq]
      have hn:=h.nd
      rw [hq] at hn
      cases oa with
      | none=>simp at hn ⊢;omega
      | some z=>have:=l6 z rfl;simp at hn ⊢;omega
  · intro h1 a ha
    rw [hnw h1] at ha
    cases ha
    exact Nat.le_refl _
  · subst hlv
    have hbs:=bsI E x
    simp only [bxO] at hb hb' ⊢
    simp only [yZ]
    generalize (acc ++ [x]).length = N at *
    (refine ⟨0,?_⟩;simp (maxSteps:=2000000) -implicitDefEqProofs [-getElem?_pos,go_sem,eqV,ah,hb,hb',hbs,hA])
theorem Wi {m k:Nat} {x:Int} {E:AM.Heap} (h:AgV c b mo n t E lb nb rb o la oa acc s) (hl:acc.length≤1000) (hk:k≤1000):∃ code,Try.f63.body = some code ∧
    aj (jZ fun fr E'=>∃ la' acc' s',AgV c b mo n t E' lb nb rb o la' oa acc' s'∧(∀ a,la = some a→la' = some a)∧(la = none→∀ a,la' = some a→E.length≤a)∧(acc',s') = agR n acc x k s) X (evT X) 63 m code
      [(0,.int .i64 x),(1,.int .i64 (k:Nat)),(2,.ptr lb 0 0 0),(3,.ptr nb 0 0 0),(4,.ptr rb 0 0 0)] E:=by
  refine ⟨_,rfl,?_⟩
  obtain ⟨lv,τ,hτ,hb,hL⟩:=h.l
  obtain ⟨τ2,hτ2,hb2⟩:=h.n
  obtain ⟨τ3,hτ3,hb3⟩:=h.r
  have w:IntKind.i64.wrap ((acc.length:Int) + (k:Int)) = ((acc.length + k:Nat):Int):=by rw [wrap_i64 (by omega) (by omega)];omega
  have h0:∃ code,((Try.f63.body).bind (aI [0,0])) = some code∧Run X (evT X) 63 m code [(0,.int .i64 x),(1,.int .i64 (k:Nat)),(2,.ptr lb 0 0 0),(3,.ptr nb 0 0 0),(4,.ptr rb 0 0 0)] E
      ⟨.normal,[(0,.int .i64 x),(1,.int .i64 (k:Nat)),(2,.ptr lb 0 0 0),(4,.ptr rb 0 0 0),(12,.bool (decide (n < (acc.length + k:Nat))))],E⟩:=by
    refine ⟨_,rfl,?_⟩
    simp only [bxO] at hb hb2
    cases la with
    | none =>
      obtain ⟨h1,τ4,hτ4,rfl⟩:=hL
      rw [h1] at w ⊢
      simp only [List.length_nil,Nat.zero_add,Int.ofNat_zero,Int.zero_add] at w ⊢
      have w':IntKind.i64.wrap (0 + (k:Int)) = (k:Int):=by rw [wrap_i64 (by omega) (by omega)];omega
      (refine ⟨0,?_⟩;simp (maxSteps:=2000000) -implicitDefEqProofs [-getElem?_pos,go_sem,eqV,ah,hb,hb2,w,w'])
    | some a =>
      obtain ⟨g,τ4,ob,hτ4,rfl,h3,h4⟩:=hL
      have hg:=h4.g
      generalize acc.length + k = q at *
      generalize acc.length = N at *
      (refine ⟨0,?_⟩;simp (maxSteps:=2000000) -implicitDefEqProofs [-getElem?_pos,go_sem,eqV,ah,hb,hb2,h3,hg,w])
  apply aj.assoc
  apply aj.seq (piece h0 _ rfl)
  by_cases hc:n < ((acc.length + k:Nat):Int)
  · obtain ⟨E1,q1,q2,q3⟩:=lG (e:=5) h.d
    refine ⟨⟨.ret,[],E1⟩,⟨.inr rfl,la,acc,fP s 5,h.reader q2 q3,fun a ha=>ha,fun h1 a ha=>(by rw [h1] at ha;cases ha),by unfold agR;rw [if_pos hc]⟩,?_⟩
    have anL:=hb3
    simp only [bxO] at hb3
    rw [decide_eq_true hc]
    (refine ⟨0,?_⟩;simp (maxSteps:=2000000) -implicitDefEqProofs [-getElem?_pos,go_sem,eqV,ah,hb3,q1])
  · apply aj.seq (fr':=[(0,.int .i64 x),(1,.int .i64 (k:Nat)),(2,.ptr lb 0 0 0),(4,.ptr rb 0 0 0),(12,.bool false)]) (H':=E)
    · rw [decide_eq_false hc]
      exact Run.cond (d:=false) rfl ⟨0,rfl⟩
    apply aj.seq (fr':=yZ x lb k 0) (H':=E)
    · simp only [yZ]
      (refine ⟨0,?_⟩;simp (maxSteps:=2000000) -implicitDefEqProofs [-getElem?_pos,go_sem,eqV,ah])
    refine aj.mono (Q:=Goes fun fr E'=>∃ la' acc' s',AgV c b mo n t E' lb nb rb o la' oa acc' s'∧(∀ a,la = some a→la' = some a)∧(la = none→∀ a,la' = some a→E.length≤a)∧(acc',s') = agR n acc x k s) ?_ fun o h=>⟨.inl h.1,h.2⟩
    apply aj.block
    refine aj.kE (I:=fun q fr E'=>∃ la' i,i≤k∧q = k - i∧fr = yZ x lb k i∧AgV c b mo n t E' lb nb rb o la' oa (acc ++ List.replicate i x) s∧(∀ a,la = some a→la' = some a)∧(la = none→∀ a,la' = some a→E.length≤a)∧E.length≤E'.length) ?_ (k:=k) ⟨la,0,by omega,rfl,rfl,by simpa using h,fun a ha=>ha,fun h1 a ha=>(by rw [h1] at ha;cases ha),Nat.le_refl _⟩
    rintro q fr E' ⟨la',i,hi,rfl,rfl,hV,hm,hnw,hlen⟩
    by_cases hik:i = k
    · subst hik
      refine aj.of (o:=⟨.exit 0,yZ x lb i i ++ [(17,.bool false)],E'⟩) ?_ (.inr ⟨by simp,rfl,la',_,s,hV,hm,hnw,by unfold agR;rw [if_neg hc]⟩)
      simp only [yZ]
      (refine ⟨0,?_⟩;simp (maxSteps:=2000000) -implicitDefEqProofs [-getElem?_pos,go_sem,eqV,ah])
    · have lI:(i:Int) < (k:Int):=by omega
      obtain ⟨E2,la2,v1,v2,v3,v4,hr4⟩:=abW (m:=m) (k:=k) (i:=i) (x:=x) (d:=true) hV (by simp;omega)
      refine aj.of (o:=⟨.normal,yZ x lb k (i + 1),E2⟩) ?_ (.inl ⟨rfl,k - (i + 1),by omega,la2,i + 1,by omega,rfl,rfl,?_,fun a ha=>v2 a (hm a ha),?_,Nat.le_trans hlen v4⟩)
      · apply Run.seq (fr':=yZ x lb k i ++ [(17,.bool true)]) (H':=E')
        · simp only [yZ]
          (refine ⟨0,?_⟩;simp (maxSteps:=2000000) -implicitDefEqProofs [-getElem?_pos,go_sem,eqV,ah,lI])
        apply Run.seq (fr':=yZ x lb k i ++ [(17,.bool true)]) (H':=E')
        · refine ⟨0,?_⟩
          simp only [yZ]
          simp (maxSteps:=2000000) -implicitDefEqProofs [-getElem?_pos,go_sem,eqV,ah]
        apply Run.seq (fr':=yZ x lb k i) (H':=E2)
        · apply Run.block
          · exact piece hr4 _ rfl
          · simp
        · have w1:IntKind.i64.wrap ((i:Int) + 1) = ((i + 1:Nat):Int):=by rw [wrap_i64 (by omega) (by omega)];omega
          simp only [yZ]
          (refine ⟨0,?_⟩;simp (maxSteps:=2000000) -implicitDefEqProofs [-getElem?_pos,go_sem,eqV,ah,w1])
      · rw [List.replicate_succ']
        rw [← List.append_assoc]
        exact v1
      · intro h1 a ha
        cases hq:la' with
        | none=>have:=v3 hq a ha;omega
        | some z =>
          have:=v2 z hq
          rw [ha] at this
          cases this
          exact hnw h1 _ hq
end
end Go.Proofs.Yteblpjhkgdpchaa
