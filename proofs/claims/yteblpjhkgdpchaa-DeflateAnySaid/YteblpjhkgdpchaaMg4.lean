/- EB to IB: texts of this claim, one behind the other; what each shows stands at its head. -/
import Derived.Test.YteblpjhkgdpchaaMg3
set_option linter.unusedSimpArgs false
set_option linter.unusedVariables false
set_option maxRecDepth 100000
set_option maxHeartbeats 8000000
namespace Go.Proofs.Yteblpjhkgdpchaa
open Go.AM
def flL:List Int:=List.replicate 144 8 ++ List.replicate 112 9 ++ List.replicate 24 7 ++ List.replicate 8 8
def flD:List Int:=List.replicate 32 5
def flO (l:List Int):AM.Obj:=⟨.pi .i64 l,0,.none,1,true,false,0⟩
def TA:Row1:=⟨30,[],.tup [.sl 0 0 288 0,.sl 1 0 32 0],[some (flO flL),some (flO flD)]⟩
theorem TB:kC X (TA :: []):=kC.cons (DV kC.nil) kC.nil (n:=400) (by kernel_rfl)
theorem aeu (H:AM.Heap):evT X 30 [] H = some (.tup [.sl H.length 0 288 0,.sl (H.length + 1) 0 32 0],H ++ [some (flO flL),some (flO flD)]):=by
  have:=fH (Ev1.frame (TB TA (List.mem_singleton.2 rfl)).1 rfl H)
  simpa [TA,cu,kP,ren,aT,vN,flO,bg,Nat.add_comm] using this
theorem Pg {H:AM.Heap} {a:AV} {l:List Int} (h:eG H a = some (.pi .i64 l)) (he:(jI l).2 = 0):evT X 31 [a] H = some (.tup [.sl H.length 0 l.length 0,.int .i64 0],H ++ [nC l.length (nD l)]):=by
  obtain ⟨c,x,hx⟩:=iM (C:=X) (f:=31) (i:=0) rfl h (fV 1)
  obtain ⟨code,hb,hr⟩:=Nw c l he
  have:=Ev1.fresh (H:=H) (args:=[a]) (l:=[.sl 3 0 l.length 0,.int .i64 0]) (o:=3) (g:=0) y8 Try.func31 hb hx rfl (by simp [dM]) hr (.inr rfl) rfl rfl rfl rfl rfl rfl rfl
  have:=fH this
  simpa [aO,fG,ren,bg,nC,AM.fresh] using this
def lcL:List Int:=nD flL
def dcL:List Int:=nD flD
theorem Yi:(jI flL).2 = 0:=by kernel_rfl
theorem Yj:(jI flD).2 = 0:=by kernel_rfl
theorem qO:flL.length = 288:=by decide +kernel
theorem Di:flD.length = 32:=by decide +kernel
theorem tZ (l:List Int):(nD l).length = l.length:=x9 _ l
theorem vO:∀ n,n < 259→3≤n→(lenOf n).1≤285∧257≤(lenOf n).1∧(lenOf n).2.1≤n∧n < (lenOf n).2.1 + 2 ^ (lenOf n).2.2∧(lenOf n).2.2≤5:=by decide +kernel
theorem DW {per n:Nat}:∀ {f s base bits j:Nat},gOk per n f s base bits j = true→base≤n→base≤(gF per n f s base bits j).2.1∧(gF per n f s base bits j).2.1≤n∧n < (gF per n f s base bits j).2.1 + 2 ^ (gF per n f s base bits j).2.2
  | 0,_,_,_,_,h,_=>by cases h
  | f + 1,s,base,bits,j,h,hb=>by
    unfold gOk at h
    unfold gF
    split
    · rename_i hj
      rw [if_pos hj] at h
      exact DW h hb
    · rename_i hj
      rw [if_neg hj] at h
      split
      · rename_i hn
        exact ⟨Nat.le_refl _,hb,hn⟩
      · rename_i hn
        rw [if_neg hn] at h
        have:=DW h (by omega)
        exact ⟨Nat.le_trans (Nat.le_add_right _ _) this.1,this.2⟩
theorem y9 {n:Nat}:∀ {f bits j:Nat},j≤2→gOk 2 n f (2 * bits + 2 + j) ((2 + j) * 2 ^ bits + 1) bits j = true→∃ b j',j' < 2∧gF 2 n f (2 * bits + 2 + j) ((2 + j) * 2 ^ bits + 1) bits j = (2 * b + 2 + j',(2 + j') * 2 ^ b + 1,b)
  | 0,_,_,_,h=>by cases h
  | f + 1,bits,j,hj,h=>by
    unfold gOk at h
    unfold gF
    by_cases h2:j = 2
    · subst h2
      rw [if_pos rfl] at h ⊢
      have e1:2 * bits + 2 + 2 = 2 * (bits + 1) + 2 + 0:=by omega
      have e2:(2 + 2) * 2 ^ bits + 1 = (2 + 0) * 2 ^ (bits + 1) + 1:=by rw [Nat.pow_succ];omega
      rw [e1,e2] at h ⊢
      exact y9 (by omega) h
    · rw [if_neg h2] at h ⊢
      split
      · exact ⟨bits,j,by omega,rfl⟩
      · rename_i hn
        rw [if_neg hn] at h
        have e1:2 * bits + 2 + j + 1 = 2 * bits + 2 + (j + 1):=by omega
        have e2:(2 + j) * 2 ^ bits + 1 + 2 ^ bits = (2 + (j + 1)) * 2 ^ bits + 1:=by
          rw [show 2 + (j + 1) = (2 + j) + 1 by omega,Nat.succ_mul]
          omega
        rw [e1,e2] at h ⊢
        exact y9 (by omega) h
theorem vP {n:Nat} (h1:1≤n) (h:n≤32768):(dY n).1≤29∧(dY n).2.1≤n∧n < (dY n).2.1 + 2 ^ (dY n).2.2∧(dY n).2.2≤13:=by
  unfold dY
  by_cases h4:n≤4
  · rw [if_pos h4]
    simp
    omega
  · rw [if_neg h4]
    obtain ⟨_,a2,a3⟩:=DW (Io h) (by omega)
    obtain ⟨b,j,hj,he⟩:=y9 (n:=n) (f:=40) (bits:=1) (j:=0) (by omega) (Io h)
    have he':gF 2 n 40 4 5 1 0 = (2 * b + 2 + j,(2 + j) * 2 ^ b + 1,b):=he
    rw [he'] at a2 a3 ⊢
    simp only at a2 a3 ⊢
    have hb:b≤13:=by
      refine Classical.byContradiction fun hc=>?_
      have hp:2 ^ 14≤2 ^ b:=Nat.pow_le_pow_right (by omega) (by omega)
      have:2 * 2 ^ b≤(2 + j) * 2 ^ b:=Nat.mul_le_mul_right _ (by omega)
      omega
    exact ⟨by omega,a2,a3,hb⟩
end Go.Proofs.Yteblpjhkgdpchaa
namespace Go.Proofs.Yteblpjhkgdpchaa
open Go.AM
theorem yg:∀ y,y < 288→0≤flL.getD y 0∧flL.getD y 0≤9:=by decide +kernel
theorem Nz:∀ y,y < 32→0≤flD.getD y 0∧flD.getD y 0≤9:=by decide +kernel
theorem qP {l:List Int} {y:Nat} (h:y < l.length):l[y]? = some (l.getD y 0):=by
  rw [List.getD_eq_getElem?_getD,List.getElem?_eq_getElem h];rfl
def jB (s:Ws) (cs ls:List Int) (y:Nat):Ws:=qQ s (cs.getD y 0) (ls.getD y 0).toNat
def pxW (s:Ws) (x:Px):Ws :=
  if x.len = 0 then jB s lcL flL x.byte.toNat else
    cZ (jB (cZ (jB s lcL flL (lenOf x.len.toNat).1) (x.len - ((lenOf x.len.toNat).2.1:Nat)) (lenOf x.len.toNat).2.2) dcL flD (dY x.dist.toNat).1) (x.dist - ((dY x.dist.toNat).2.1:Nat)) (dY x.dist.toNat).2.2
def FX (l:List Px):Ws:=jB (l.foldl pxW (cZ (cZ ⟨0,[]⟩ 1 1) 1 2)) lcL flL 256
def jM (l:List Px):List UInt8 × Int:=if (iL l []).2 ≠ 0 then ([],(iL l []).2) else ((FX l).o,0)
structure FxV (E:AM.Heap) (o6 o7 o8 o10 o12:Nat) (oa:Option Nat) (s:Ws):Prop where
  r6:E[o6]? = some (some (flO flL))
  r7:E[o7]? = some (some (flO flD))
  r8:E[o8]? = some (nC 288 lcL)
  r10:E[o10]? = some (nC 32 dcL)
  wr:WrV 0 E o12 oa s
  lt:o6 < o12∧o7 < o12∧o8 < o12∧o10 < o12
  oa:∀ a,oa = some a→o12 < a
  ok:jC s
section
variable {E:AM.Heap} {o6 o7 o8 o10 o12:Nat} {oa:Option Nat} {s:Ws}
theorem WrV.lt' (h:WrV 0 E o12 oa s):o12 < E.length:=h.lt.1
theorem FxV.step {E':AM.Heap} {oa':Option Nat} {s':Ws} (h:FxV E o6 o7 o8 o10 o12 oa s) (hw:WrV 0 E' o12 oa' s') (hk:Kpw E E' o12 oa oa') (hok:jC s'):FxV E' o6 o7 o8 o10 o12 oa' s':=by
  obtain ⟨l6,l7,l8,l10⟩:=h.lt
  have hl:=h.wr.lt'
  have keep:∀ j,j < o12→E'[j]? = E[j]?:=fun j hj=>hk.rest j (by omega) (by omega) fun a ha=>by have:=h.oa a ha;omega
  refine ⟨by rw [keep _ l6];exact h.r6,by rw [keep _ l7];exact h.r7,by rw [keep _ l8];exact h.r8,by rw [keep _ l10];exact h.r10,hw,h.lt,?_,hok⟩
  intro a ha
  cases hq:oa with
  | none=>have:=hk.new a hq ha;omega
  | some z =>
    have:=hk.same z hq
    rw [ha] at this
    cases this
    exact h.oa _ hq
theorem FxV.cat (r:AM.Heap) (h:FxV E o6 o7 o8 o10 o12 oa s):FxV (E ++ r) o6 o7 o8 o10 o12 oa s:=by
  obtain ⟨l6,l7,l8,l10⟩:=h.lt
  have hl:=h.wr.lt'
  have keep:∀ j,j < o12→(E ++ r)[j]? = E[j]?:=fun j hj=>List.getElem?_append_left (by omega)
  exact ⟨by rw [keep _ l6];exact h.r6,by rw [keep _ l7];exact h.r7,by rw [keep _ l8];exact h.r8,by rw [keep _ l10];exact h.r10,h.wr.cat,h.lt,h.oa,h.ok⟩
def nG (o6 o7 o8 o10 o12 c:Nat) (l:List Px) (i:Nat):AM.Frame:=[(6,.sl o6 0 288 0),(7,.sl o7 0 32 0),(8,.sl o8 0 288 0),(10,.sl o10 0 32 0),(12,.ptr o12 0 0 0),(46,.ro c (.pr 3 (l.map pxR)) 1),(47,.int .i64 (l.length:Nat)),(48,.int .i64 (i:Nat))]
def xG (o6 o7 o8 o10 o12 q c:Nat) (l:List Px) (i:Nat):AM.Frame:=[(6,.sl o6 0 288 0),(7,.sl o7 0 32 0),(8,.sl o8 0 288 0),(10,.sl o10 0 32 0),(12,.ptr o12 0 0 0),(14,.ptr q 0 0 0),(46,.ro c (.pr 3 (l.map pxR)) 1),(47,.int .i64 (l.length:Nat)),(48,.int .i64 (i:Nat))]
theorem jL {cs ls:List Int} {y:Nat} (h:jC s):jC (jB s cs ls y)∧(jB s cs ls y).k = s.k + (ls.getD y 0).toNat:=DX _ h
theorem Yk {m i q c:Nat} {x:Px} {l:List Px} {tl:AM.Frame} (h:FxV E o6 o7 o8 o10 o12 oa s) (hl:s.k≤7000000) (hq:E[q]? = some (some (pxO x))):∃ E' oa',FxV E' o6 o7 o8 o10 o12 oa' (jB s lcL flL x.byte.toNat)∧Kpw E E' o12 oa oa'∧∃ code,((Try.f22.body).bind (aI [1,1,1,1,1,1,1,1,0,1,0,0,1,1,0,0,1,0,1,0,0])) = some code∧Run X (evT X) 22 m code (xG o6 o7 o8 o10 o12 q c l i ++ tl) E ⟨.normal,nG o6 o7 o8 o10 o12 c l i,E'⟩:=by
  have hy:=x.byte.toNat_lt
  have hy2:x.byte.toNat < 288:=by omega
  obtain ⟨n0,n9⟩:=yg _ hy2
  have hc:=qP (l:=lcL) (y:=x.byte.toNat) (by unfold lcL;rw [tZ,qO];exact hy2)
  have hf:=qP (l:=flL) (y:=x.byte.toNat) (by rw [qO];exact hy2)
  obtain ⟨E',oa',g1,g2,g3⟩:=zf (x:=lcL.getD x.byte.toNat 0) (I:=flL.getD x.byte.toNat 0) (n:=(flL.getD x.byte.toNat 0).toNat) (by omega) h.wr h.ok (by omega) (by omega)
  have hs:=jL (cs:=lcL) (ls:=flL) (y:=x.byte.toNat) h.ok
  refine ⟨E',oa',h.step g2 g3 hs.1,g3,_,rfl,?_⟩
  have q6:=h.r6;have q8:=h.r8
  have hyI:(x.byte.toNat:Int) < 288:=by omega
  simp only [flO,nC,pxO,pxR] at q6 q8 hq
  simp only [xG,nG]
  generalize lcL.getD x.byte.toNat 0 = v1 at *
  generalize flL.getD x.byte.toNat 0 = v2 at *
  generalize l.map pxR = R at *
  generalize l.length = N at *
  generalize lcL = LC at *
  generalize flL = LL at *
  (refine ⟨0,?_⟩;simp (maxSteps:=2000000) -implicitDefEqProofs [-getElem?_pos,go_sem,eqV,ah,retag,q6,q8,hq,hyI,hy2,hc,hf,g1])
end
end Go.Proofs.Yteblpjhkgdpchaa
namespace Go.Proofs.Yteblpjhkgdpchaa
open Go.AM
def JY (o6 o7 o8 o10 o12 q u v w c:Nat) (l:List Px) (i:Nat):AM.Frame:=[(6,.sl o6 0 288 0),(7,.sl o7 0 32 0),(8,.sl o8 0 288 0),(10,.sl o10 0 32 0),(12,.ptr o12 0 0 0),(14,.ptr q 0 0 0),(15,.int .i64 (u:Nat)),(16,.int .i64 (v:Nat)),(17,.int .i64 (w:Nat)),(46,.ro c (.pr 3 (l.map pxR)) 1),(47,.int .i64 (l.length:Nat)),(48,.int .i64 (i:Nat))]
def JZ (o6 o7 o8 o10 o12 q v w c:Nat) (l:List Px) (i:Nat):AM.Frame:=[(6,.sl o6 0 288 0),(7,.sl o7 0 32 0),(8,.sl o8 0 288 0),(10,.sl o10 0 32 0),(12,.ptr o12 0 0 0),(14,.ptr q 0 0 0),(16,.int .i64 (v:Nat)),(17,.int .i64 (w:Nat)),(46,.ro c (.pr 3 (l.map pxR)) 1),(47,.int .i64 (l.length:Nat)),(48,.int .i64 (i:Nat))]
section
variable {E:AM.Heap} {o6 o7 o8 o10 o12:Nat} {oa:Option Nat} {s:Ws}
theorem Yl {m i q c n:Nat} {x:Px} {l:List Px} {tl:AM.Frame} (hn:x.len = (n:Nat)) (aev:n≤258) (hq:E[q]? = some (some (pxO x))):∃ code,((Try.f22.body).bind (aI [1,1,1,1,1,1,1,1,0,1,0,0,1,1,0,0,1,1,0])) = some code∧Run X (evT X) 22 m code (xG o6 o7 o8 o10 o12 q c l i ++ tl) E ⟨.normal,JY o6 o7 o8 o10 o12 q (lenOf n).1 (lenOf n).2.1 (lenOf n).2.2 c l i,E⟩:=by
  refine ⟨_,rfl,?_⟩
  have hL:=QT (H:=E) aev
  simp only [pxO,pxR,hn] at hq
  simp only [xG,JY]
  generalize lenOf n = R3 at *
  generalize l.map pxR = R at *
  generalize l.length = N at *
  (refine ⟨0,?_⟩;simp (maxSteps:=2000000) -implicitDefEqProofs [-getElem?_pos,go_sem,eqV,ah,hq,hL,ak])
theorem Ym {m i q c n:Nat} {x:Px} {l:List Px} (hn:x.dist = (n:Nat)) (h1:1≤n) (h2:n≤32768) (hq:E[q]? = some (some (pxO x))):∃ code,((Try.f22.body).bind (aI [1,1,1,1,1,1,1,1,0,1,0,0,1,1,0,0,1,1,1,1,1,0])) = some code∧Run X (evT X) 22 m code (xG o6 o7 o8 o10 o12 q c l i) E ⟨.normal,JY o6 o7 o8 o10 o12 q (dY n).1 (dY n).2.1 (dY n).2.2 c l i,E⟩:=by
  refine ⟨_,rfl,?_⟩
  have hL:=JU (H:=E) h1 h2
  simp only [pxO,pxR,hn] at hq
  simp only [xG,JY]
  generalize dY n = R3 at *
  generalize l.map pxR = R at *
  generalize l.length = N at *
  (refine ⟨0,?_⟩;simp (maxSteps:=2000000) -implicitDefEqProofs [-getElem?_pos,go_sem,eqV,ah,hq,hL,ak])
theorem Yn {m i q u v w c:Nat} {l:List Px} (h:FxV E o6 o7 o8 o10 o12 oa s) (hl:s.k≤7000000) (hu:u < 288):∃ E' oa',FxV E' o6 o7 o8 o10 o12 oa' (jB s lcL flL u)∧Kpw E E' o12 oa oa'∧∃ code,((Try.f22.body).bind (aI [1,1,1,1,1,1,1,1,0,1,0,0,1,1,0,0,1,1,1,0])) = some code∧Run X (evT X) 22 m code (JY o6 o7 o8 o10 o12 q u v w c l i) E ⟨.normal,JZ o6 o7 o8 o10 o12 q v w c l i,E'⟩:=by
  obtain ⟨n0,n9⟩:=yg _ hu
  have hc:=qP (l:=lcL) (y:=u) (by unfold lcL;rw [tZ,qO];exact hu)
  have hf:=qP (l:=flL) (y:=u) (by rw [qO];exact hu)
  obtain ⟨E',oa',g1,g2,g3⟩:=zf (x:=lcL.getD u 0) (I:=flL.getD u 0) (n:=(flL.getD u 0).toNat) (by omega) h.wr h.ok (by omega) (by omega)
  have hs:=jL (cs:=lcL) (ls:=flL) (y:=u) h.ok
  refine ⟨E',oa',h.step g2 g3 hs.1,g3,_,rfl,?_⟩
  have q6:=h.r6;have q8:=h.r8
  have huI:(u:Int) < 288:=by omega
  simp only [flO,nC] at q6 q8
  simp only [JY,JZ]
  generalize lcL.getD u 0 = v1 at *
  generalize flL.getD u 0 = v2 at *
  generalize l.map pxR = R at *
  generalize l.length = N at *
  generalize lcL = LC at *
  generalize flL = LL at *
  (refine ⟨0,?_⟩;simp (maxSteps:=2000000) -implicitDefEqProofs [-getElem?_pos,go_sem,eqV,ah,retag,q6,q8,huI,hu,hc,hf,g1])
theorem Yo {m i q u v w c:Nat} {l:List Px} (h:FxV E o6 o7 o8 o10 o12 oa s) (hl:s.k≤7000000) (hu:u < 32):∃ E' oa',FxV E' o6 o7 o8 o10 o12 oa' (jB s dcL flD u)∧Kpw E E' o12 oa oa'∧∃ code,((Try.f22.body).bind (aI [1,1,1,1,1,1,1,1,0,1,0,0,1,1,0,0,1,1,1,1,1,1,0])) = some code∧Run X (evT X) 22 m code (JY o6 o7 o8 o10 o12 q u v w c l i) E ⟨.normal,JZ o6 o7 o8 o10 o12 q v w c l i,E'⟩:=by
  obtain ⟨n0,n9⟩:=Nz _ hu
  have hc:=qP (l:=dcL) (y:=u) (by unfold dcL;rw [tZ,Di];exact hu)
  have hf:=qP (l:=flD) (y:=u) (by rw [Di];exact hu)
  obtain ⟨E',oa',g1,g2,g3⟩:=zf (x:=dcL.getD u 0) (I:=flD.getD u 0) (n:=(flD.getD u 0).toNat) (by omega) h.wr h.ok (by omega) (by omega)
  have hs:=jL (cs:=dcL) (ls:=flD) (y:=u) h.ok
  refine ⟨E',oa',h.step g2 g3 hs.1,g3,_,rfl,?_⟩
  have q6:=h.r7;have q8:=h.r10
  have huI:(u:Int) < 32:=by omega
  simp only [flO,nC] at q6 q8
  simp only [JY,JZ]
  generalize dcL.getD u 0 = v1 at *
  generalize flD.getD u 0 = v2 at *
  generalize l.map pxR = R at *
  generalize l.length = N at *
  generalize dcL = LC at *
  generalize flD = LL at *
  (refine ⟨0,?_⟩;simp (maxSteps:=2000000) -implicitDefEqProofs [-getElem?_pos,go_sem,eqV,ah,retag,q6,q8,huI,hu,hc,hf,g1])
theorem Yp {m i q v w c n:Nat} {x:Px} {l:List Px} (h:FxV E o6 o7 o8 o10 o12 oa s) (hl:s.k≤7000000) (hn:x.len = (n:Nat)) (hn2:n≤100000) (hv:v≤n) (hw:w≤60) (hq:E[q]? = some (some (pxO x))):∃ E' oa',FxV E' o6 o7 o8 o10 o12 oa' (cZ s (x.len - (v:Nat)) w)∧Kpw E E' o12 oa oa'∧∃ code,((Try.f22.body).bind (aI [1,1,1,1,1,1,1,1,0,1,0,0,1,1,0,0,1,1,1,1,0])) = some code∧Run X (evT X) 22 m code (JZ o6 o7 o8 o10 o12 q v w c l i) E ⟨.normal,xG o6 o7 o8 o10 o12 q c l i,E'⟩:=by
  obtain ⟨E',oa',g1,g2,g3⟩:=nI (x:=x.len - (v:Nat)) (I:=(w:Nat)) (n:=w) rfl h.wr h.ok (by omega) hw
  refine ⟨E',oa',h.step g2 g3 (dP h.ok w).1,g3,_,rfl,?_⟩
  rw [hn] at g1
  have w1:IntKind.i64.wrap ((n:Int) - (v:Int)) = (n:Int) - (v:Int):=by rw [wrap_i64 (by omega) (by omega)]
  simp only [pxO,pxR,hn] at hq
  simp only [JZ,xG]
  generalize l.map pxR = R at *
  generalize l.length = N at *
  (refine ⟨0,?_⟩;simp (maxSteps:=2000000) -implicitDefEqProofs [-getElem?_pos,go_sem,eqV,ah,hq,w1,g1])
theorem Yq {m i q v w c n:Nat} {x:Px} {l:List Px} (h:FxV E o6 o7 o8 o10 o12 oa s) (hl:s.k≤7000000) (hn:x.dist = (n:Nat)) (hn2:n≤100000) (hv:v≤n) (hw:w≤60) (hq:E[q]? = some (some (pxO x))):∃ E' oa',FxV E' o6 o7 o8 o10 o12 oa' (cZ s (x.dist - (v:Nat)) w)∧Kpw E E' o12 oa oa'∧∃ code,((Try.f22.body).bind (aI [1,1,1,1,1,1,1,1,0,1,0,0,1,1,0,0,1,1,1,1,1,1,1])) = some code∧Run X (evT X) 22 m code (JZ o6 o7 o8 o10 o12 q v w c l i) E ⟨.normal,nG o6 o7 o8 o10 o12 c l i,E'⟩:=by
  obtain ⟨E',oa',g1,g2,g3⟩:=nI (x:=x.dist - (v:Nat)) (I:=(w:Nat)) (n:=w) rfl h.wr h.ok (by omega) hw
  refine ⟨E',oa',h.step g2 g3 (dP h.ok w).1,g3,_,rfl,?_⟩
  rw [hn] at g1
  have w1:IntKind.i64.wrap ((n:Int) - (v:Int)) = (n:Int) - (v:Int):=by rw [wrap_i64 (by omega) (by omega)]
  simp only [pxO,pxR,hn] at hq
  simp only [JZ,nG]
  generalize l.map pxR = R at *
  generalize l.length = N at *
  (refine ⟨0,?_⟩;simp (maxSteps:=2000000) -implicitDefEqProofs [-getElem?_pos,go_sem,eqV,ah,hq,w1,g1])
end
end Go.Proofs.Yteblpjhkgdpchaa
namespace Go.Proofs.Yteblpjhkgdpchaa
open Go.AM
theorem J3 {x:Px} (h:oW x = true) (h0:¬ x.len = 0):x.dist≤32768:=by
  unfold oW at h
  rw [if_neg h0] at h
  simp at h
  omega
theorem NC {s:Ws} {x:Px} (h:jC s) (hm:oW x = true):jC (pxW s x)∧(pxW s x).k≤s.k + 40:=by
  unfold pxW
  by_cases h0:x.len = 0
  · rw [if_pos h0]
    obtain ⟨h1,h2⟩:=jL (cs:=lcL) (ls:=flL) (y:=x.byte.toNat) h
    have:=yg x.byte.toNat (by have:=x.byte.toNat_lt;omega)
    exact ⟨h1,by omega⟩
  · rw [if_neg h0]
    obtain ⟨n,d,hn,hd,n3,n258,d1⟩:=Ik hm h0
    have hd2:=J3 hm h0
    rw [hn,hd] at *
    simp only [Int.toNat_natCast] at *
    obtain ⟨a1,a2,a3,a4,a5⟩:=vO n (by omega) n3
    obtain ⟨b1,b2,b3,b4⟩:=vP d1 (by omega)
    obtain ⟨h1,h2⟩:=jL (cs:=lcL) (ls:=flL) (y:=(lenOf n).1) h
    obtain ⟨h3,h4⟩:=dP (x:=(n:Int) - ((lenOf n).2.1:Nat)) h1 (lenOf n).2.2
    obtain ⟨h5,h6⟩:=jL (cs:=dcL) (ls:=flD) (y:=(dY d).1) h3
    obtain ⟨h7,h8⟩:=dP (x:=(d:Int) - ((dY d).2.1:Nat)) h5 (dY d).2.2
    have:=yg (lenOf n).1 (by omega)
    have:=Nz (dY d).1 (by omega)
    exact ⟨h7,by omega⟩
section
variable {E:AM.Heap} {o6 o7 o8 o10 o12:Nat} {oa:Option Nat} {s:Ws}
theorem VZ {m i c:Nat} {x:Px} {l:List Px} (h:FxV E o6 o7 o8 o10 o12 oa s) (hl:s.k≤6000000) (hx:l[i]? = some x) (hll:l.length≤100000) (hm:oW x = true):∃ E' oa',FxV E' o6 o7 o8 o10 o12 oa' (pxW s x)∧∃ code,((Try.f22.body).bind (aI [1,1,1,1,1,1,1,1,0,1,0,0,1,1])) = some code∧Run X (evT X) 22 m code (nG o6 o7 o8 o10 o12 c l i ++ [(49,.bool true)]) E ⟨.normal,nG o6 o7 o8 o10 o12 c l (i + 1),E'⟩:=by
  have hx':(l.map pxR)[i]? = some (pxR x):=by rw [List.getElem?_map,hx];rfl
  have hi:=eP hx
  have hiI:(i:Int) < (l.length:Int):=by omega
  have hlm:(l.map pxR).length = l.length:=by simp
  have QZ:∃ code,((Try.f22.body).bind (aI [1,1,1,1,1,1,1,1,0,1,0,0,1,1,0,0,0])) = some code∧Run X (evT X) 22 m code (nG o6 o7 o8 o10 o12 c l i ++ [(49,.bool true)]) E ⟨.normal,xG o6 o7 o8 o10 o12 E.length c l i,E ++ [some (pxO x)]⟩:=by
    refine ⟨_,rfl,?_⟩
    simp only [nG,xG,pxO,pxR] at hx' ⊢
    generalize l.map pxR = R at *
    generalize l.length = N at *
    (refine ⟨0,?_⟩;simp (maxSteps:=2000000) -implicitDefEqProofs [-getElem?_pos,go_sem,eqV,ah,hx',hi,hiI,hlm,Yr,lQ,retag,yh,uf,splice,jd,scalars,scalar])
  have hF0:=h.cat [some (pxO x)]
  have hq0:(E ++ [some (pxO x)])[E.length]? = some (some (pxO x)):=by simp
  have hlt:=h.wr.lt
  generalize E ++ [some (pxO x)] = E0 at *
  have hqn:E.length ≠ o12∧∀ a,oa = some a→E.length ≠ a:=⟨by omega,fun a ha=>by have:=hlt.2 a ha;omega⟩
  generalize E.length = q at *
  have V3:∃ code,((Try.f22.body).bind (aI [1,1,1,1,1,1,1,1,0,1,0,0,1,1,0,0,1,0,0])) = some code∧Run X (evT X) 22 m code (xG o6 o7 o8 o10 o12 q c l i) E0 ⟨.normal,xG o6 o7 o8 o10 o12 q c l i ++ [(54,.bool (decide (x.len = 0)))],E0⟩:=by
    refine ⟨_,rfl,?_⟩
    simp only [xG,pxO,pxR] at hq0 ⊢
    generalize l.map pxR = R at *
    generalize l.length = N at *
    by_cases h0:x.len = 0
    · rw [decide_eq_true h0]
      rw [h0] at hq0
      (refine ⟨0,?_⟩;simp (maxSteps:=2000000) -implicitDefEqProofs [-getElem?_pos,go_sem,eqV,ah,hq0])
    · have h0b:(x.len == 0) = false:=by simpa using h0
      rw [decide_eq_false h0]
      (refine ⟨0,?_⟩;simp (maxSteps:=2000000) -implicitDefEqProofs [-getElem?_pos,go_sem,eqV,ah,hq0,h0,h0b])
  have w1:IntKind.i64.wrap ((i:Int) + 1) = ((i + 1:Nat):Int):=by rw [wrap_i64 (by omega) (by omega)];omega
  have ZY:∀ E',∃ code,((Try.f22.body).bind (aI [1,1,1,1,1,1,1,1,0,1,0,0,1,1,1])) = some code∧Run X (evT X) 22 m code (nG o6 o7 o8 o10 o12 c l i) E' ⟨.normal,nG o6 o7 o8 o10 o12 c l (i + 1),E'⟩:=by
    intro E'
    refine ⟨_,rfl,?_⟩
    simp only [nG]
    generalize l.map pxR = R at *
    generalize l.length = N at *
    generalize i + 1 = i1 at *
    (refine ⟨0,?_⟩;simp (maxSteps:=2000000) -implicitDefEqProofs [-getElem?_pos,go_sem,eqV,ah,w1])
  unfold pxW
  by_cases h0:x.len = 0
  · rw [if_pos h0]
    rw [decide_eq_true h0] at V3
    obtain ⟨E1,oa1,g1,g2,g3⟩:=Yk (m:=m) (i:=i) (c:=c) (l:=l) (tl:=[(54,.bool true)]) hF0 (by omega) hq0
    refine ⟨E1,oa1,g1,_,rfl,?_⟩
    apply Run.seq (fr':=nG o6 o7 o8 o10 o12 c l i) (H':=E1)
    · refine Run.iU ?_
      apply Run.seq (piece QZ _ rfl)
      refine Run.bG ?_ (by simp)
      apply Run.seq (piece V3 _ rfl)
      refine Run.cond (d:=true) (by simp [xG,aJ,ay]) ?_
      exact Run.seq (piece g3 _ rfl) ⟨0,rfl⟩
    · exact piece (ZY E1) _ rfl
  · rw [if_neg h0]
    rw [decide_eq_false h0] at V3
    obtain ⟨n,d,hn,hd,n3,n258,d1⟩:=Ik hm h0
    have hd2:=J3 hm h0
    have en:x.len.toNat = n:=by omega
    have ed:x.dist.toNat = d:=by omega
    rw [en,ed]
    obtain ⟨a1,a2,a3,a4,a5⟩:=vO n (by omega) n3
    obtain ⟨b1,b2,b3,b4⟩:=vP d1 (by omega)
    have f1:=yg (lenOf n).1 (by omega)
    have f2:=Nz (dY d).1 (by omega)
    have aew:=Yl (m:=m) (E:=E0) (o6:=o6) (o7:=o7) (o8:=o8) (o10:=o10) (o12:=o12) (i:=i) (c:=c) (l:=l) (tl:=[(54,.bool false)]) hn n258 hq0
    obtain ⟨E1,oa1,g1,g2,g3⟩:=Yn (m:=m) (i:=i) (q:=q) (u:=(lenOf n).1) (v:=(lenOf n).2.1) (w:=(lenOf n).2.2) (c:=c) (l:=l) hF0 (by omega) (by omega)
    have k1:=(jL (cs:=lcL) (ls:=flL) (y:=(lenOf n).1) h.ok).2
    have kq:∀ {E2:AM.Heap} {oa2:Option Nat},Kpw E0 E2 o12 oa oa2→E2[q]? = some (some (pxO x)):=fun hk=>by rw [hk.rest q (eP hq0) hqn.1 hqn.2];exact hq0
    obtain ⟨E2,oa2,g4,g5,g6⟩:=Yp (m:=m) (i:=i) (q:=q) (v:=(lenOf n).2.1) (w:=(lenOf n).2.2) (c:=c) (l:=l) g1 (by omega) hn (by omega) a3 (by omega) (kq g2)
    have k2:=(dP (x:=x.len - ((lenOf n).2.1:Nat)) g1.ok (lenOf n).2.2).2
    have aex:=Ym (m:=m) (o6:=o6) (o7:=o7) (o8:=o8) (o10:=o10) (o12:=o12) (i:=i) (c:=c) (l:=l) hd d1 (by omega) (kq (g2.trans g5))
    obtain ⟨E3,oa3,g7,g8,g9⟩:=Yo (m:=m) (i:=i) (q:=q) (u:=(dY d).1) (v:=(dY d).2.1) (w:=(dY d).2.2) (c:=c) (l:=l) g4 (by omega) (by omega)
    have k3:=(jL (cs:=dcL) (ls:=flD) (y:=(dY d).1) g4.ok).2
    obtain ⟨E4,oa4,g10,g11,g12⟩:=Yq (m:=m) (i:=i) (q:=q) (v:=(dY d).2.1) (w:=(dY d).2.2) (c:=c) (l:=l) g7 (by omega) hd (by omega) b2 (by omega) (kq ((g2.trans g5).trans g8))
    refine ⟨E4,oa4,g10,_,rfl,?_⟩
    apply Run.seq (fr':=nG o6 o7 o8 o10 o12 c l i) (H':=E4)
    · refine Run.block ?_ (by simp)
      apply Run.seq (piece QZ _ rfl)
      apply Run.seq (fr':=xG o6 o7 o8 o10 o12 q c l i ++ [(54,.bool false)]) (H':=E0)
      · apply Run.seq (piece V3 _ rfl)
        exact Run.cond (d:=false) (by simp [xG,aJ,ay]) ⟨0,rfl⟩
      apply Run.seq (piece aew _ rfl)
      apply Run.seq (piece g3 _ rfl)
      apply Run.seq (piece g6 _ rfl)
      apply Run.seq (piece aex _ rfl)
      apply Run.seq (piece g9 _ rfl)
      exact piece g12 _ rfl
    · exact piece (ZY E4) _ rfl
end
end Go.Proofs.Yteblpjhkgdpchaa
namespace Go.Proofs.Yteblpjhkgdpchaa
open Go.AM
theorem Dj:∀ {l:List Px} {o:List UInt8},(iL l o).2 = 0→∀ x ∈ l,oW x = true
  | [],_,_,x,hx=>by cases hx
  | y :: l,o,h,x,hx=>by
    unfold iL at h
    split at h
    · cases h
    · rename_i hm
      have hm:oW y = true:=by simpa using hm
      rcases List.mem_cons.1 hx with rfl | hx
      · exact hm
      · split at h
        · exact Dj h x hx
        · split at h
          · cases h
          · exact Dj h x hx
theorem zh:∀ (l:List Px) (s:Ws),jC s→(∀ x ∈ l,oW x = true)→jC (l.foldl pxW s)∧(l.foldl pxW s).k≤s.k + 40 * l.length
  | [],s,h,_=>⟨h,by simp⟩
  | x :: l,s,h,hm=>by
    obtain ⟨h1,h2⟩:=NC h (hm x (List.mem_cons_self ..))
    obtain ⟨h3,h4⟩:=zh l (pxW s x) h1 fun y hy=>hm y (List.mem_cons_of_mem _ hy)
    exact ⟨h3,by simp only [List.foldl_cons,List.length_cons];omega⟩
section
variable {E:AM.Heap} {o6 o7 o8 o10 o12:Nat} {oa:Option Nat} {s:Ws}
theorem V4 {m c:Nat} {l:List Px} (h:FxV E o6 o7 o8 o10 o12 oa s) (hs:s.k≤100) (hll:l.length≤2000) (hm:∀ x ∈ l,oW x = true):∃ code,((Try.f22.body).bind (aI [1,1,1,1,1,1,1,1,0,1])) = some code∧aj (Goes fun fr E'=>∃ oa',fr = nG o6 o7 o8 o10 o12 c l l.length ++ [(49,.bool false)]∧FxV E' o6 o7 o8 o10 o12 oa' (l.foldl pxW s)) X (evT X) 22 m code (nG o6 o7 o8 o10 o12 c l 0) E:=by
  refine ⟨_,rfl,?_⟩
  apply aj.block
  refine aj.kE (I:=fun k fr E'=>∃ i oa' s',i≤l.length∧k = l.length - i∧fr = nG o6 o7 o8 o10 o12 c l i∧FxV E' o6 o7 o8 o10 o12 oa' s'∧s'.k≤100 + 40 * i∧(l.drop i).foldl pxW s' = l.foldl pxW s) ?_ (k:=l.length) ⟨0,oa,s,by omega,rfl,rfl,h,by omega,rfl⟩
  rintro k fr E' ⟨i,oa',s',hi,rfl,rfl,hF,hk,hf⟩
  by_cases hin:i = l.length
  · rw [List.drop_of_length_le (by omega),List.foldl_nil] at hf
    refine aj.of (o:=⟨.exit 0,nG o6 o7 o8 o10 o12 c l i ++ [(49,.bool false)],E'⟩) ?_ (.inr ⟨by simp,rfl,oa',by rw [hin],by rw [← hf];exact hF⟩)
    subst hin
    refine ⟨0,?_⟩
    simp only [nG]
    generalize l.map pxR = R at *
    generalize l.length = N at *
    simp (maxSteps:=2000000) -implicitDefEqProofs [-getElem?_pos,go_sem,eqV,ah]
  · have hlt:i < l.length:=by omega
    have lI:(i:Int) < (l.length:Int):=by omega
    obtain ⟨x,hx⟩:∃ x,l[i]? = some x:=⟨_,List.getElem?_eq_getElem hlt⟩
    have hmx:=hm x (List.mem_of_getElem? hx)
    have hdrop:l.drop i = x :: l.drop (i + 1):=by
      rw [List.drop_eq_getElem_cons hlt]
      rw [List.getElem?_eq_getElem hlt] at hx
      rw [Option.some.inj hx]
    rw [hdrop,List.foldl_cons] at hf
    obtain ⟨E2,oa2,g1,g2⟩:=VZ (m:=m) (c:=c) hF (by omega) hx (by omega) hmx
    have hk2:=(NC hF.ok hmx).2
    refine aj.of (o:=⟨.normal,nG o6 o7 o8 o10 o12 c l (i + 1),E2⟩) ?_ (.inl ⟨rfl,l.length - (i + 1),by omega,i + 1,oa2,_,by omega,rfl,rfl,g1,by omega,hf⟩)
    apply Run.seq (fr':=nG o6 o7 o8 o10 o12 c l i ++ [(49,.bool true)]) (H':=E')
    · simp only [nG]
      generalize l.map pxR = R at *
      generalize l.length = N at *
      (refine ⟨0,?_⟩;simp (maxSteps:=2000000) -implicitDefEqProofs [-getElem?_pos,go_sem,eqV,ah,lI,hlt])
    apply Run.seq (fr':=nG o6 o7 o8 o10 o12 c l i ++ [(49,.bool true)]) (H':=E')
    · exact Run.cond (d:=true) (by simp [nG,aJ,ay]) ⟨0,rfl⟩
    exact piece g2 _ rfl
theorem Yt {m c i:Nat} {l:List Px} {tl:AM.Frame} (h:FxV E o6 o7 o8 o10 o12 oa s) (hl:s.k≤7000000):∃ E' oa',FxV E' o6 o7 o8 o10 o12 oa' (jB s lcL flL 256)∧∃ code,((Try.f22.body).bind (aI [1,1,1,1,1,1,1,1,1,0])) = some code∧Run X (evT X) 22 m code (nG o6 o7 o8 o10 o12 c l i ++ tl) E ⟨.normal,[(12,.ptr o12 0 0 0)],E'⟩:=by
  obtain ⟨n0,n9⟩:=yg 256 (by omega)
  have hc:=qP (l:=lcL) (y:=256) (by unfold lcL;rw [tZ,qO];omega)
  have hf:=qP (l:=flL) (y:=256) (by rw [qO];omega)
  obtain ⟨E',oa',g1,g2,g3⟩:=zf (x:=lcL.getD 256 0) (I:=flL.getD 256 0) (n:=(flL.getD 256 0).toNat) (by omega) h.wr h.ok (by omega) (by omega)
  have hs:=jL (cs:=lcL) (ls:=flL) (y:=256) h.ok
  refine ⟨E',oa',h.step g2 g3 hs.1,_,rfl,?_⟩
  have q6:=h.r6;have q8:=h.r8
  simp only [flO,nC] at q6 q8
  simp only [nG]
  generalize lcL.getD 256 0 = v1 at *
  generalize flL.getD 256 0 = v2 at *
  generalize l.map pxR = R at *
  generalize l.length = N at *
  generalize lcL = LC at *
  generalize flL = LL at *
  (refine ⟨0,?_⟩;simp (maxSteps:=2000000) -implicitDefEqProofs [-getElem?_pos,go_sem,eqV,ah,retag,q6,q8,hc,hf,g1])
theorem Yu {m:Nat} (h:FxV E o6 o7 o8 o10 o12 oa s) (hne:s.o ≠ []):∃ a g ob,E[a]? = some (some ob)∧Rw (.pb s.o) g ob∧∃ code,((Try.f22.body).bind (aI [1,1,1,1,1,1,1,1,1,1,0])) = some code∧Run X (evT X) 22 m code [(12,.ptr o12 0 0 0)] E ⟨.normal,[(2,.sl a 0 s.o.length g),(3,.int .i64 0)],E⟩:=by
  obtain ⟨⟨vo,τ,a1,h0,ho⟩,hn⟩:=id h.wr
  cases hq:oa with
  | none=>rw [hq] at ho;exact absurd ho.1 hne
  | some a =>
    rw [hq] at ho
    obtain ⟨g,τ2,ob,hτ2,rfl,h3,h4⟩:=ho
    have ht:τ2 = 0:=hτ2.elim id id
    refine ⟨a,g,ob,h3,⟨h4.p,h4.g,h4.row,h4.ids,by rw [h4.tg,ht]⟩,_,rfl,?_⟩
    simp only [jm] at h0
    generalize s.o.length = N at *
    (refine ⟨0,?_⟩;simp (maxSteps:=2000000) -implicitDefEqProofs [-getElem?_pos,go_sem,eqV,ah,h0,ak])
end
end Go.Proofs.Yteblpjhkgdpchaa
namespace Go.Proofs.Yteblpjhkgdpchaa
open Go.AM
def xJ:List Int→Int→Int × Int
  | [],s=>(s,0)
  | x :: r,s=>if 0≤x∧x≤15 then xJ r (if 0 < x then IntKind.i64.wrap (s + IntKind.i64.wrap (2 ^ (min (15 - x).toNat 64))) else s) else (s,2)
def bn (l:List Int):Bool × Int :=
  if 320 < (l.length:Int) then (false,3) else
  if (xJ l 0).2 = 0 then (if 32768 < (xJ l 0).1 then (false,7) else ((xJ l 0).1 == 32768,0)) else (false,2)
def Ph (n nx la:Int):Int:=if 0 < la then IntKind.i64.wrap (IntKind.i64.wrap (nx + 1) * 2 ^ (min (IntKind.u64.wrap (IntKind.i64.wrap (n - la))).toNat 64)) else nx
def rIn (n:Int):List Int→Nat→Int→Int→List Int→Int × Int × List Int
  | [],_,nx,la,o=>(nx,la,o)
  | x :: r,i,nx,la,o=>if x = n then rIn n r (i + 1) (Ph n nx la) n (o.set i (Ph n nx la)) else rIn n r (i + 1) nx la o
def ND (l:List Int):Nat→Nat→Int→Int→List Int→Int × Int × List Int
  | 0,_,nx,la,o=>(nx,la,o)
  | k + 1,n,nx,la,o=>ND l k (n + 1) (rIn n l 0 nx la o).1 (rIn n l 0 nx la o).2.1 (rIn n l 0 nx la o).2.2
def Q5:List Int→Nat→List Int→List Int
  | [],_,o=>o
  | x :: r,i,o=>Q5 r (i + 1) (if x = 0 then o.set i (-1) else o)
def gI (l:List Int):List Int:=Q5 l 0 (ND l 15 1 0 0 (List.replicate l.length 0)).2.2
theorem Dk (n:Int):∀ (l:List Int) (i:Nat) (nx la:Int) (o:List Int),(rIn n l i nx la o).2.2.length = o.length
  | [],_,_,_,_=>rfl
  | x :: r,i,nx,la,o=>by
    simp only [rIn]
    split
    · rw [Dk n r];simp
    · rw [Dk n r]
theorem DY (l:List Int):∀ (k n:Nat) (nx la:Int) (o:List Int),(ND l k n nx la o).2.2.length = o.length
  | 0,_,_,_,_=>rfl
  | k + 1,n,nx,la,o=>by rw [ND,DY l k,Dk]
theorem J4:∀ (l:List Int) (i:Nat) (o:List Int),(Q5 l i o).length = o.length
  | [],_,_=>rfl
  | x :: r,i,o=>by
    rw [Q5,J4 r]
    split <;> simp
end Go.Proofs.Yteblpjhkgdpchaa
namespace Go.Proofs.Yteblpjhkgdpchaa
open Go.AM
def fine (l:List Int):Bool:=l.all fun x=>decide (0≤x∧x≤15)
theorem DZ:∀ (l n:List Int),(iw n l).2 = if fine l then 0 else 2
  | [],n=>by simp [iw,fine]
  | x :: r,n=>by
    unfold iw
    by_cases h:0≤x∧x≤15
    · rw [if_pos h,DZ r];simp [fine,h]
    · rw [if_neg h];simp only [fine,List.all_cons,decide_eq_false h,Bool.false_and];rfl
theorem Au:∀ (l:List Int) (s:Int),(xJ l s).2 = if fine l then 0 else 2
  | [],n=>by simp [xJ,fine]
  | x :: r,n=>by
    unfold xJ
    by_cases h:0≤x∧x≤15
    · rw [if_pos h,Au r];simp [fine,h]
    · rw [if_neg h];simp only [fine,List.all_cons,decide_eq_false h,Bool.false_and];rfl
theorem wP {x:Int} {r:List Int}:fine (x :: r) = true ↔ (0≤x∧x≤15)∧fine r = true:=by simp [fine]
theorem oL (n:List Int) (i j:Nat) (v:Int) (h:i < n.length):(n.set i v).getD j 0 = if i = j then v else n.getD j 0:=by
  simp only [List.getD_eq_getElem?_getD,List.getElem?_set]
  by_cases e:i = j
  · subst e;simp [h]
  · simp [e]
theorem Gt:∀ (l n:List Int) (B:Int),fine l = true→n.length = 16→(∀ j:Nat,0≤n.getD j 0∧n.getD j 0≤B)→B + l.length < 9223372036854775808 →
    ∀ j:Nat,j < 16→(iw n l).1.getD j 0 = n.getD j 0 + (l.count (j:Int):Nat)
  | [],n,B,_,_,_,_,j,_=>by simp [iw]
  | x :: r,n,B,hf,hn,hb,hB,j,hj=>by
    obtain ⟨h,hr⟩:=wP.1 hf
    unfold iw
    rw [if_pos h]
    have hx:x.toNat < n.length:=by omega
    have hw:IntKind.i64.wrap (n.getD x.toNat 0 + 1) = n.getD x.toNat 0 + 1:=by
      have:=hb x.toNat
      simp only [List.length_cons] at hB
      exact wrap_i64 (by omega) (by omega)
    rw [hw,Gt r _ (B + 1) hr (by simpa using hn) (fun k=>by
      rw [oL _ _ _ _ hx]
      have:=hb k
      have:=hb x.toNat
      split <;> omega) (by simp only [List.length_cons] at hB;omega) j hj,oL _ _ _ _ hx,List.count_cons]
    by_cases e:x.toNat = j
    · have:x = (j:Int):=by omega
      subst e;simp [← this];omega
    · have:¬ x = (j:Int):=by omega
      simp [e,this]
def ct (l:List Int) (j:Nat):Int:=(l.count (j:Int):Nat)
theorem kZ (l:List Int) (j:Nat):0≤ct l j:=by simp [ct]
theorem BO (l:List Int) (j:Nat):ct l j≤l.length:=by unfold ct;have:=List.count_le_length (a:=(j:Int)) (l:=l);omega
theorem TD (j:Nat):z16.getD j 0 = 0:=by
  unfold z16
  match j with
  | 0 | 1 | 2 | 3 | 4 | 5 | 6 | 7 | 8 | 9 | 10 | 11 | 12 | 13 | 14 | 15=>rfl
  | j + 16=>rfl
theorem ug {l:List Int} (h:l.length≤320) (hf:fine l = true) (j:Nat) (hj:j < 16):(bf l).1.getD j 0 = ct l j:=by
  unfold bf
  rw [if_neg (by omega),Gt l z16 0 hf rfl (fun j=>by rw [TD];omega) (by omega) j hj,TD]
  simp [ct]
theorem J5 (l:List Int):(bf l).2 = if 320 < (l.length:Int) then 3 else if fine l then 0 else 2:=by
  unfold bf;split
  · rfl
  · exact DZ l z16
def sumP (c:Nat→Int):Nat→Nat→Int
  | 0,_=>0
  | k + 1,i=>c i * 2 ^ (15 - i) + sumP c k (i + 1)
theorem Pj (n:List Int) (c:Nat→Int) (hc:∀ j,j < 16→n.getD j 0 = c j) (h0:∀ j,0≤c j∧c j≤320):∀ (k i:Nat) (s:Int),k + i = 16→0≤s→s≤10485760 * i →
    FW n k i s = s + sumP c k i
  | 0,_,s,_,_,_=>by simp [FW,sumP]
  | k + 1,i,s,h,hs,hs2=>by
    have hp:(2:Int) ^ (15 - i)≤2 ^ 15:=by
      have:=Nat.pow_le_pow_right (n:=2) (by omega) (show 15 - i≤15 by omega)
      exact_mod_cast this
    have hp0:(0:Int) < 2 ^ (15 - i):=Int.pow_pos (by omega)
    have hb:=h0 i
    have hm:c i * 2 ^ (15 - i)≤320 * 2 ^ 15:=Int.mul_le_mul hb.2 hp (by omega) (by omega)
    have hm0:0≤c i * 2 ^ (15 - i):=Int.mul_nonneg hb.1 (by omega)
    unfold FW sumP
    rw [hc i (by omega),Nat.min_eq_left (by omega),wrap_i64 (n:=c i * 2 ^ (15 - i)) (by omega) (by omega),wrap_i64 (by omega) (by omega)]
    rw [Pj n c hc h0 k (i + 1) _ (by omega) (by omega) (by omega)]
    omega
def J6:List Int→Int
  | []=>0
  | x :: r=>(if 0 < x then 2 ^ (15 - x.toNat) else 0) + J6 r
theorem D5:∀ (l:List Int) (s:Int),fine l = true→0≤s→s + 32768 * l.length < 9223372036854775808→(xJ l s).1 = s + J6 l
  | [],s,_,_,_=>by simp [xJ,J6]
  | x :: r,s,hf,hs,hb=>by
    obtain ⟨h,hr⟩:=wP.1 hf
    unfold xJ
    rw [if_pos h]
    simp only [List.length_cons] at hb
    have hp:(2:Int) ^ (15 - x.toNat)≤2 ^ 15:=by
      have:=Nat.pow_le_pow_right (n:=2) (by omega) (show 15 - x.toNat≤15 by omega)
      exact_mod_cast this
    have hp0:(0:Int) < 2 ^ (15 - x.toNat):=Int.pow_pos (by omega)
    have e:min (15 - x).toNat 64 = 15 - x.toNat:=by omega
    rw [e,wrap_i64 (n:=2 ^ (15 - x.toNat)) (by omega) (by omega),wrap_i64 (by omega) (by omega)]
    by_cases h0:0 < x
    · rw [if_pos h0,D5 r _ hr (by omega) (by omega)];simp only [J6,if_pos h0];omega
    · rw [if_neg h0,D5 r _ hr (by omega) (by omega)];simp only [J6,if_neg h0];omega
theorem V5 (x:Int) (r:List Int) (j:Nat):ct (x :: r) j = ct r j + if x = (j:Int) then 1 else 0:=by
  unfold ct
  rw [List.count_cons]
  by_cases h:x = (j:Int) <;> simp [h]
theorem Pm:∀ l:List Int,fine l = true→sumP (ct l) 15 1 = J6 l
  | [],_=>by simp [sumP,J6,ct]
  | x :: r,hf=>by
    obtain ⟨h,hr⟩:=wP.1 hf
    have ih:=Pm r hr
    have hx:x = 0∨x = 1∨x = 2∨x = 3∨x = 4∨x = 5∨x = 6∨x = 7∨x = 8∨x = 9∨x = 10∨x = 11∨x = 12∨x = 13∨x = 14∨x = 15:=by omega
    unfold J6
    rw [← ih]
    simp only [sumP,V5]
    rcases hx with rfl | rfl | rfl | rfl | rfl | rfl | rfl | rfl | rfl | rfl | rfl | rfl | rfl | rfl | rfl | rfl <;> simp <;> omega
theorem D6 (l:List Int):jI l = bn l:=by
  unfold jI bn
  rw [J5,Au]
  by_cases h:320 < (l.length:Int)
  · simp [h]
  · by_cases hf:fine l = true
    · simp only [h,hf,if_false,if_true]
      rw [Pj (bf l).1 (ct l) (fun j hj=>ug (by omega) hf j hj) (fun j=>⟨kZ l j,by have:=BO l j;omega⟩) 15 1 0 rfl (by omega) (by omega),Pm l hf,D5 l 0 hf (by omega) (by omega)]
    · simp [h,hf]
end Go.Proofs.Yteblpjhkgdpchaa
namespace Go.Proofs.Yteblpjhkgdpchaa
open Go.AM
def fst (c:Nat→Int):Nat→Int
  | 0=>0
  | 1=>0
  | i + 2=>2 * (fst c (i + 1) + c (i + 1))
theorem pW (c:Nat→Int) (h0:∀ j,0≤c j∧c j≤320):∀ i:Nat,0≤fst c i∧fst c i + 640≤640 * 2 ^ i
  | 0=>by simp [fst]
  | 1=>by simp [fst]
  | i + 2=>by
    have:=pW c h0 (i + 1)
    have:=h0 (i + 1)
    have e:(2:Int) ^ (i + 2) = 2 * 2 ^ (i + 1):=by rw [Int.pow_succ];omega
    rw [e]
    simp only [fst]
    omega
theorem Gu (n:List Int) (c:Nat→Int) (hc:∀ j,0 < j→j < 16→n.getD j 0 = c j) (h0:∀ j,0≤c j∧c j≤320):∀ (k i:Nat) (f:List Int),k + i = 16→0 < i→f.length = 17 →
    (∀ j,j≤i→f.getD j 0 = fst c j)→∀ j,j≤16→(qp n k i f).getD j 0 = fst c j
  | 0,i,f,hk,hi,hl,hf,j,hj=>by
    unfold qp;exact hf j (by omega)
  | k + 1,i,f,hk,hi,hl,hf,j,hj=>by
    unfold qp
    refine Gu n c hc h0 k (i + 1) _ (by omega) (by omega) (by simpa using hl) (fun a ha=>?_) j hj
    rw [oL _ _ _ _ (by omega)]
    by_cases e:i + 1 = a
    · subst e
      rw [if_pos rfl,hf i (by omega),hc i hi (by omega)]
      have hb:=pW c h0 i
      have hb1:=h0 i
      have hp:(2:Int) ^ i≤2 ^ 15:=by
        have:=Nat.pow_le_pow_right (n:=2) (by omega) (show i≤15 by omega)
        exact_mod_cast this
      rw [wrap_i64 (n:=fst c i + c i) (by omega) (by omega),wrap_i64 (by omega) (by omega)]
      obtain ⟨m,rfl⟩:∃ m,i = m + 1:=⟨i - 1,by omega⟩
      simp only [fst]
      omega
    · rw [if_neg e];exact hf a (by omega)
theorem Yv (j:Nat):z17.getD j 0 = 0:=by
  unfold z17
  match j with
  | 0 | 1 | 2 | 3 | 4 | 5 | 6 | 7 | 8 | 9 | 10 | 11 | 12 | 13 | 14 | 15 | 16=>rfl
  | j + 17=>rfl
theorem yj {l:List Int} (h:l.length≤320) (hf:fine l = true) (j:Nat) (hj:j≤16):(dQ (bf l).1).getD j 0 = fst (ct l) j:=by
  unfold dQ
  refine Gu _ (ct l) (fun a ha hb=>?_) (fun j=>⟨kZ l j,by have:=BO l j;omega⟩) 15 1 z17 rfl (by omega) rfl (fun a ha=>?_) j hj
  · rw [oL _ _ _ _ (by rw [jO];omega),if_neg (by omega),ug h hf a hb]
  · rw [Yv]
    match a with
    | 0 | 1=>rfl
def code (l:List Int) (p:Nat):Int:=if 0 < l.getD p 0 then fst (ct l) (l.getD p 0).toNat + ct (l.take p) (l.getD p 0).toNat else -1
theorem Aw (l:List Int) (h:l.length≤320) (hf:fine l = true):∀ (todo pre next:List Int),l = pre ++ todo→next.length = 17 →
    (∀ j:Nat,0 < j→j < 16→next.getD j 0 = fst (ct l) j + ct pre j)→∀ j,j < todo.length→(oZ next todo).getD j 0 = code l (pre.length + j)
  | [],pre,next,_,_,_,j,hj=>by simp at hj
  | x :: r,pre,next,e,hn,hx,j,hj=>by
    have hat:l.getD pre.length 0 = x:=by rw [e];simp
    have htk:l.take pre.length = pre:=by rw [e];simp
    have hxr:0≤x∧x≤15:=by
      have:=List.all_eq_true.1 hf x (by rw [e];simp)
      simpa using this
    unfold oZ
    by_cases h0:0 < x
    · rw [if_pos h0]
      have hb:=pW (ct l) (fun j=>⟨kZ l j,by have:=BO l j;omega⟩) x.toNat
      have hp:(2:Int) ^ x.toNat≤2 ^ 15:=by
        have:=Nat.pow_le_pow_right (n:=2) (by omega) (show x.toNat≤15 by omega)
        exact_mod_cast this
      have hpl:pre.length≤l.length:=by rw [e];simp
      have hcp:=BO pre x.toNat
      have hcn:=kZ pre x.toNat
      have hnx:=hx x.toNat (by omega) (by omega)
      match j with
      | 0=>simp only [code,Nat.add_zero,hat,htk,if_pos h0,List.getD_cons_zero,hnx]
      | j + 1 =>
        have:=Aw l h hf r (pre ++ [x]) (next.set x.toNat (IntKind.i64.wrap (next.getD x.toNat 0 + 1))) (by simp [e]) (by simpa using hn) (fun a ha hb2=>by
          rw [oL _ _ _ _ (by omega),wrap_i64 (by omega) (by omega)]
          have ea:ct (pre ++ [x]) a = ct pre a + if x = (a:Int) then 1 else 0:=by
            unfold ct;rw [List.count_append,List.count_cons];by_cases q:x = (a:Int) <;> simp [q]
          rw [ea]
          by_cases q:x.toNat = a
          · subst q
            rw [if_pos rfl,if_pos (by omega),hnx];omega
          · rw [if_neg q,if_neg (by omega),hx a ha hb2];omega) j (by simpa using hj)
        simp only [List.getD_cons_succ]
        rw [this]
        simp only [List.length_append,List.length_cons,List.length_nil]
        congr 1;omega
    · rw [if_neg h0]
      match j with
      | 0=>simp only [code,Nat.add_zero,hat,if_neg h0,List.getD_cons_zero]
      | j + 1 =>
        have:=Aw l h hf r (pre ++ [x]) next (by simp [e]) hn (fun a ha hb2=>by
          have ea:ct (pre ++ [x]) a = ct pre a + if x = (a:Int) then 1 else 0:=by
            unfold ct;rw [List.count_append,List.count_cons];by_cases q:x = (a:Int) <;> simp [q]
          rw [ea,if_neg (by omega),hx a ha hb2];omega) j (by simpa using hj)
        simp only [List.getD_cons_succ]
        rw [this]
        simp only [List.length_append,List.length_cons,List.length_nil]
        congr 1;omega
theorem Gv {l:List Int} (h:l.length≤320) (hf:fine l = true) (j:Nat) (hj:j < l.length):(nD l).getD j 0 = code l j:=by
  unfold nD
  have hl:(dQ (bf l).1).length = 17:=by unfold dQ;rw [kQ];rfl
  have:=Aw l h hf l [] _ rfl hl (fun a ha hb=>by rw [yj h hf a (by omega)];simp [ct]) j hj
  simpa using this
def Inv (l:List Int) (n:Nat) (m nx la:Int):Prop :=
  0≤la∧la≤n∧0≤nx∧(la = 0→nx = 0)∧(if 0 < la then (nx + 1) * 2 ^ (n - la.toNat) else nx) = fst (ct l) n + m
theorem step_eq {l:List Int} (h:l.length≤320) {n:Nat} (hn:n≤15) {m nx la:Int} (hm:m≤320) (hi:Inv l n m nx la):Ph n nx la = fst (ct l) n + m:=by
  obtain ⟨h1,h2,h3,h4,h5⟩:=hi
  unfold Ph
  have hb:=pW (ct l) (fun j=>⟨kZ l j,by have:=BO l j;omega⟩) n
  have hp:(2:Int) ^ n≤2 ^ 15:=by
    have:=Nat.pow_le_pow_right (n:=2) (by omega) (show n≤15 by omega)
    exact_mod_cast this
  by_cases hl:0 < la
  · rw [if_pos hl] at h5 ⊢
    have hp1:(1:Int)≤2 ^ (n - la.toNat):=Int.pow_pos (by omega)
    have hle:nx + 1≤(nx + 1) * 2 ^ (n - la.toNat):=by
      have:=Int.mul_le_mul_of_nonneg_left hp1 (show 0≤nx + 1 by omega)
      omega
    rw [wrap_i64 (n:=nx + 1) (by omega) (by omega),wrap_i64 (n:=(n:Int) - la) (by omega) (by omega),wrap_u64 (by omega) (by omega)]
    have e:min ((n:Int) - la).toNat 64 = n - la.toNat:=by omega
    rw [e,h5,wrap_i64 (by omega) (by omega)]
  · rw [if_neg hl] at h5 ⊢;exact h5
theorem NG (l:List Int) (h:l.length≤320) (n:Nat) (hn:n≤15) (hn0:0 < n):∀ (todo pre o:List Int) (nx la:Int),l = pre ++ todo→o.length = l.length→Inv l n (ct pre n) nx la →
    Inv l n (ct l n) (rIn n todo pre.length nx la o).1 (rIn n todo pre.length nx la o).2.1 ∧
      (∀ j,j < l.length→(rIn n todo pre.length nx la o).2.2.getD j 0 = if l.getD j 0 = n∧pre.length≤j then code l j else o.getD j 0)
  | [],pre,o,nx,la,e,ho,hi=>by
    simp only [List.append_nil] at e
    subst e
    refine ⟨hi,fun j hj=>?_⟩
    rw [if_neg (by omega)];rfl
  | x :: r,pre,o,nx,la,e,ho,hi=>by
    have hat:l.getD pre.length 0 = x:=by rw [e];simp
    have htk:l.take pre.length = pre:=by rw [e];simp
    have hpl:pre.length < l.length:=by rw [e];simp
    have hcp:=BO pre n
    have hcn:=kZ pre n
    have ea:ct (pre ++ [x]) n = ct pre n + if x = (n:Int) then 1 else 0:=by
      unfold ct;rw [List.count_append,List.count_cons];by_cases q:x = (n:Int) <;> simp [q]
    have el:pre.length + 1 = (pre ++ [x]).length:=by simp
    unfold rIn
    by_cases hx:x = (n:Int)
    · rw [if_pos hx]
      have hs:=step_eq h hn (by omega) hi
      have hb:=pW (ct l) (fun j=>⟨kZ l j,by have:=BO l j;omega⟩) n
      rw [hs,el]
      obtain ⟨g1,g2⟩:=NG l h n hn hn0 r (pre ++ [x]) (o.set pre.length (fst (ct l) n + ct pre n)) (fst (ct l) n + ct pre n) n (by simp [e]) (by simpa using ho) (by
        refine ⟨by omega,by omega,by omega,by omega,?_⟩
        rw [if_pos (by omega),ea,if_pos hx]
        simp;omega)
      refine ⟨g1,fun j hj=>?_⟩
      rw [g2 j hj,oL _ _ _ _ (by omega)]
      by_cases q:pre.length = j
      · subst q
        rw [if_neg (by simp),if_pos rfl,if_pos ⟨by rw [hat,hx],Nat.le_refl _⟩]
        simp only [code,hat,htk]
        rw [if_pos (by omega),hx];rfl
      · rw [if_neg q]
        by_cases q2:l.getD j 0 = n
        · simp only [q2,List.length_append,List.length_cons,List.length_nil]
          by_cases q3:pre.length≤j
          · rw [if_pos ⟨trivial,by omega⟩,if_pos ⟨trivial,q3⟩]
          · rw [if_neg (by omega),if_neg (by omega)]
        · rw [if_neg (fun z=>q2 z.1),if_neg (fun z=>q2 z.1)]
    · rw [if_neg hx,el]
      obtain ⟨g1,g2⟩:=NG l h n hn hn0 r (pre ++ [x]) o nx la (by simp [e]) ho (by rw [ea,if_neg hx];simpa using hi)
      refine ⟨g1,fun j hj=>?_⟩
      rw [g2 j hj]
      by_cases q2:l.getD j 0 = n
      · have q:pre.length ≠ j:=by rintro rfl;exact hx (by rw [← hat,q2])
        simp only [q2,List.length_append,List.length_cons,List.length_nil]
        by_cases q3:pre.length≤j
        · rw [if_pos ⟨trivial,by omega⟩,if_pos ⟨trivial,q3⟩]
        · rw [if_neg (by omega),if_neg (by omega)]
      · rw [if_neg (fun z=>q2 z.1),if_neg (fun z=>q2 z.1)]
theorem Pn (l:List Int) (h:l.length≤320):∀ (k n:Nat) (o:List Int) (nx la:Int),k + n = 16→0 < n→o.length = l.length→Inv l n 0 nx la →
    ∀ j,j < l.length→(ND l k n nx la o).2.2.getD j 0 = if (n:Int)≤l.getD j 0∧l.getD j 0≤15 then code l j else o.getD j 0
  | 0,n,o,nx,la,hk,hn,ho,hi,j,hj=>by
    rw [if_neg (by omega)];rfl
  | k + 1,n,o,nx,la,hk,hn,ho,hi,j,hj=>by
    unfold ND
    obtain ⟨g1,g2⟩:=NG l h n (by omega) hn l [] o nx la rfl ho (by simpa [ct] using hi)
    simp only [List.length_nil] at g1 g2
    have hlen:(rIn n l 0 nx la o).2.2.length = l.length:=by rw [Dk];exact ho
    have g3:Inv l (n + 1) 0 (rIn n l 0 nx la o).1 (rIn n l 0 nx la o).2.1:=by
      obtain ⟨a1,a2,a3,a4,a5⟩:=g1
      refine ⟨a1,by omega,a3,a4,?_⟩
      obtain ⟨m,rfl⟩:∃ m,n = m + 1:=⟨n - 1,by omega⟩
      simp only [fst]
      rw [← a5]
      by_cases q:0 < (rIn ((m + 1:Nat):Int) l 0 nx la o).2.1
      · rw [if_pos q,if_pos q]
        have e:m + 1 + 1 - (rIn ((m + 1:Nat):Int) l 0 nx la o).2.1.toNat = (m + 1 - (rIn ((m + 1:Nat):Int) l 0 nx la o).2.1.toNat) + 1:=by omega
        rw [e,Int.pow_succ,← Int.mul_assoc]
        omega
      · rw [if_neg q,if_neg q,a4 (by omega)];rfl
    rw [Pn l h k (n + 1) _ _ _ (by omega) (by omega) hlen g3 j hj,g2 j hj]
    by_cases q1:((n + 1:Nat):Int)≤l.getD j 0∧l.getD j 0≤15
    · rw [if_pos q1,if_pos ⟨by omega,q1.2⟩]
    · rw [if_neg q1]
      by_cases q2:l.getD j 0 = n
      · rw [if_pos ⟨q2,by omega⟩,if_pos (by omega)]
      · rw [if_neg (fun z=>q2 z.1),if_neg (by omega)]
theorem Po (l:List Int):∀ (todo pre o:List Int),l = pre ++ todo→o.length = l.length→∀ j,j < l.length→(Q5 todo pre.length o).getD j 0 = if l.getD j 0 = 0∧pre.length≤j then -1 else o.getD j 0
  | [],pre,o,e,ho,j,hj=>by
    simp only [List.append_nil] at e
    subst e
    rw [if_neg (by omega)];rfl
  | x :: r,pre,o,e,ho,j,hj=>by
    have hat:l.getD pre.length 0 = x:=by rw [e];simp
    have el:pre.length + 1 = (pre ++ [x]).length:=by simp
    have hpl:pre.length < l.length:=by rw [e];simp
    unfold Q5
    rw [el,Po l r (pre ++ [x]) _ (by simp [e]) (by split <;> simp [ho]) j hj]
    simp only [List.length_append,List.length_cons,List.length_nil]
    by_cases q:pre.length = j
    · subst q
      rw [if_neg (by omega),hat]
      by_cases q2:x = 0
      · rw [if_pos q2,if_pos ⟨q2,Nat.le_refl _⟩,oL _ _ _ _ (by omega),if_pos rfl]
      · rw [if_neg q2,if_neg (fun z=>q2 z.1)]
    · have e2:(if x = 0 then o.set pre.length (-1) else o).getD j 0 = o.getD j 0:=by
        split
        · rw [oL _ _ _ _ (by omega),if_neg q]
        · rfl
      rw [e2]
      by_cases q2:l.getD j 0 = 0
      · by_cases q3:pre.length≤j
        · rw [if_pos ⟨q2,by omega⟩,if_pos ⟨q2,q3⟩]
        · rw [if_neg (by omega),if_neg (by omega)]
      · rw [if_neg (fun z=>q2 z.1),if_neg (fun z=>q2 z.1)]
theorem NH {l:List Int} (h:l.length≤320) (hf:fine l = true) (j:Nat) (hj:j < l.length):(gI l).getD j 0 = code l j:=by
  unfold gI
  have hlen:(ND l 15 1 0 0 (List.replicate l.length 0)).2.2.length = l.length:=by rw [DY];simp
  have h1:=Po l l [] _ rfl hlen j hj
  simp only [List.length_nil] at h1
  have h2:=Pn l h 15 1 (List.replicate l.length 0) 0 0 rfl (by omega) (by simp) ⟨by omega,by omega,by omega,fun _=>rfl,by simp [fst]⟩ j hj
  rw [h1,h2]
  have hr:0≤l.getD j 0∧l.getD j 0≤15:=by
    have:=List.all_eq_true.1 hf (l.getD j 0) (by rw [List.getD_eq_getElem?_getD,List.getElem?_eq_getElem hj];exact List.getElem_mem hj)
    simpa using this
  by_cases q:l.getD j 0 = 0
  · rw [if_pos ⟨q,by omega⟩];simp only [code];rw [if_neg (by omega)]
  · rw [if_neg (fun z=>q z.1),if_pos (by omega)]
theorem yt (l:List Int):(nD l).length = l.length:=by unfold nD;rw [x9]
theorem J7 (l:List Int):(gI l).length = l.length:=by unfold gI;rw [J4,DY];simp
theorem TF {l:List Int} (h:l.length≤320) (hf:fine l = true):nD l = gI l:=by
  refine List.ext_getElem (by rw [yt,J7]) fun j h1 h2=>?_
  have hj:j < l.length:=by rw [yt] at h1;exact h1
  have e1:=Gv h hf j hj
  have e2:=NH h hf j hj
  rw [List.getD_eq_getElem?_getD,List.getElem?_eq_getElem h1] at e1
  rw [List.getD_eq_getElem?_getD,List.getElem?_eq_getElem h2] at e2
  simp only [Option.getD_some] at e1 e2
  rw [e1,e2]
end Go.Proofs.Yteblpjhkgdpchaa
namespace Go.Proofs.Yteblpjhkgdpchaa
open Go.AM
theorem oM {l:List Int} (he:(bn l).2 = 0):l.length≤320∧fine l = true:=by
  unfold bn at he
  rw [Au] at he
  by_cases h:320 < (l.length:Int)
  · rw [if_pos h] at he;cases he
  · rw [if_neg h] at he
    by_cases hf:fine l = true
    · exact ⟨by omega,hf⟩
    · simp [hf] at he
end Go.Proofs.Yteblpjhkgdpchaa
namespace Go.Proofs.Yteblpjhkgdpchaa
open Go.AM
theorem bits_nat {v:Nat} (h:v < 9223372036854775808):(AM.bits .i64 (v:Int)).toNat = v:=by
  unfold AM.bits
  simp [IntKind.bits]
  omega
def je (b:List UInt8) (i:Nat):Int:=((b.getD (i / 8) 0).toNat / 2 ^ (i % 8) % 2:Nat)
theorem Q7 {C:Ctx} {T:Cf} {f m:Nat} {c:Code} {σ:Type} (I:σ→Prop) (fr:σ→AM.Frame) (H:σ→AM.Heap) (P:σ→AM.Out→Prop) (μ:σ→Nat)
    (step:∀ s,I s→∃ o,Run C T f m c (fr s) (H s) o∧((∃ s',I s'∧o = ⟨.normal,fr s',H s'⟩∧(∀ o',P s' o'→P s o')∧μ s' < μ s)∨(o.ex ≠ .normal∧P s o))) (s:σ) (hs:I s) :
    ∃ o,Run C T f m (.loop c) (fr s) (H s) o∧P s o:=by
  generalize hn:μ s = n
  induction n using Nat.strongRecOn generalizing s with
  | _ n ih =>
    obtain ⟨o,h1,⟨s',a,b,c,d⟩ | ⟨a,b⟩⟩:=step s hs
    · obtain ⟨o',g1,g2⟩:=ih (μ s') (by omega) s' a rfl
      subst b
      exact ⟨o',Run.wQ h1 g1,c _ g2⟩
    · exact ⟨o,Run.zi h1 a,b⟩
def mxL:Int→List Int→Int
  | m,[]=>m
  | m,x :: r=>mxL (if m < x then x else m) r
theorem Az:∀ (l:List Int) (m:Int),0≤m→m≤15→fine l = true→0≤mxL m l∧mxL m l≤15
  | [],m,h0,h1,_=>⟨h0,h1⟩
  | x :: r,m,h0,h1,hf=>by
    obtain ⟨h,hr⟩:=wP.1 hf
    unfold mxL
    refine Az r _ ?_ ?_ hr <;> split <;> omega
def jD (i code:Int):List Int→List Int→Nat→Option Nat
  | x :: r,y :: cs,j=>if x = i∧y = code then some j else jD i code r cs (j + 1)
  | _,_,_=>none
def NI (l codes:List Int) (b:List UInt8) (a:Nat):Nat→Nat→Int→Int × Int × Int
  | 0,_,_=>(0,0,5)
  | k + 1,i,code=>if 8 * b.length - (i:Int) < a then (0,0,4) else
    match jD i (2 * code + je b (a + i - 1)) l codes 0 with
    | some j=>(j,i,0)
    | none=>NI l codes b a k (i + 1) (2 * code + je b (a + i - 1))
def Z4 (l codes:List Int) (b:List UInt8) (a:Nat):Int × Int × Int:=NI l codes b a (mxL 0 l).toNat 1 0
def t3 (r:Int × Int × Int):AV:=.tup [.int .i64 r.1,.int .i64 r.2.1,.int .i64 r.2.2]
def rG (l:List Int) (b:List UInt8) (a:Int):Int × Int × Int :=
  if (bn l).2 = 0 then (if a < 0 then (0,0,2) else Z4 l (gI l) b a.toNat) else (0,0,(bn l).2)
theorem bsI (H:AM.Heap) (x:Int):dh X H 41 1 [(0,.int .i64 x)] = some (.ro 1 (.pi .i64 [x]) 0,H):=by kernel_rfl
theorem D7 {C:Ctx} {T:Cf} {f m:Nat} {a b:Code} {fr fr1:AM.Frame} {H H1:AM.Heap} {Q:AM.Out→Prop} (h0:Run C T f m a fr H ⟨.normal,fr1,H1⟩) (h1:∃ o,Run C T f m b fr1 H1 o∧Q o):∃ o,Run C T f m (.seq a b) fr H o∧Q o:=by
  obtain ⟨o,g1,g2⟩:=h1
  exact ⟨o,Run.seq h0 g1,g2⟩
theorem V6 {C:Ctx} {T:Cf} {f m id:Nat} {a c rest:Code} {fr fr1:AM.Frame} {H H1:AM.Heap} {P Q:AM.Out→Prop} (h0:Run C T f m a fr H ⟨.normal,fr1,H1⟩) (hl:∃ o,Run C T f m c fr1 H1 o∧P o)
    (h1:∀ o,P o→(∃ fr' H',jA id o = ⟨.normal,fr',H'⟩∧∃ o',Run C T f m rest fr' H' o'∧Q o')∨((jA id o).ex ≠ .normal∧Q (jA id o))):∃ o,Run C T f m (.seq (.seq a (.block id c)) rest) fr H o∧Q o:=by
  obtain ⟨o,g1,g2⟩:=hl
  have hb:Run C T f m (.seq a (.block id c)) fr H (jA id o):=Run.seq h0 (Run.block' g1)
  rcases h1 o g2 with ⟨fr',H',e,o',h2,h3⟩ | ⟨h2,h3⟩
  · rw [e] at hb;exact ⟨o',Run.seq hb h2,h3⟩
  · exact ⟨_,Run.bG hb h2,h3⟩
end Go.Proofs.Yteblpjhkgdpchaa
namespace Go.Proofs.Yteblpjhkgdpchaa
open Go.AM
inductive Res (α:Type) where
  | ok (a:α) (k:Nat) (o:List UInt8)
  | err (e:Int)
abbrev PM (α:Type):=Nat→List UInt8→Res α
def nJ {α:Type} (a:α):PM α:=fun k o=>.ok a k o
def nK {α:Type} (e:Int):PM α:=fun _ _=>.err e
def dG {α β:Type} (m:PM α) (f:α→PM β):PM β:=fun k o=>match m k o with
  | .ok a k' o'=>f a k' o'
  | .err e=>.err e
def vS (b:List UInt8):PM Int:=fun k o=>if k < 8 * b.length then .ok (je b k) (k + 1) o else .err 4
def rH (mo:Int) (c:UInt8):PM Unit:=fun k o=>if (o.length:Int) < mo then .ok () k (o ++ [c]) else .err 3
def Yw:PM Unit:=fun k o=>.ok () ((k + 7) / 8 * 8) o
def gV (b:List UInt8):Nat→PM Int
  | 0=>nJ 0
  | n + 1=>dG (gV b n) fun x=>dG (vS b) fun y=>nJ (x + 2 ^ n * y)
def sK (m:PM Unit):Nat→PM Unit
  | 0=>nJ ()
  | n + 1=>dG m fun _=>sK m n
def decP (b:List UInt8) (l codes:List Int):Nat→Nat→Int→PM Nat
  | 0,_,_=>nK 5
  | k + 1,i,x=>dG (vS b) fun y=>match jD i (2 * x + y) l codes 0 with
    | some j=>nJ j
    | none=>decP b l codes k (i + 1) (2 * x + y)
def uh (b:List UInt8) (l:List Int):PM Nat:=if (bn l).2 = 0 then decP b l (gI l) (mxL 0 l).toNat 1 0 else nK (bn l).2
def FY (b:List UInt8) (mo:Int):PM Unit:=dG Yw fun _=>dG (gV b 16) fun n=>dG (gV b 16) fun m =>
  if n + m = 65535 then sK (dG (gV b 8) fun c=>rH mo (UInt8.ofNat c.toNat)) n.toNat else nK 5
def NJ:List (Int × Nat):=[(3,0),(4,0),(5,0),(6,0),(7,0),(8,0),(9,0),(10,0),(11,1),(13,1),(15,1),(17,1),(19,2),(23,2),(27,2),(31,2),(35,3),(43,3),(51,3),(59,3),(67,4),(83,4),(99,4),(115,4),(131,5),(163,5),(195,5),(227,5),(258,0)]
def AA (s:Nat):Int:=(NJ.getD (s - 257) (0,0)).1
def CV (s:Nat):Nat:=(NJ.getD (s - 257) (0,0)).2
def lJ (d:Nat):Nat:=if d < 4 then 0 else d / 2 - 1
def sN (d:Nat):Nat:=if d < 4 then 1 + d else 1 + (2 + d % 2) * 2 ^ (d / 2 - 1)
def yu (mo:Int) (d:Nat):PM Unit:=fun k o=>rH mo (o.getD (o.length - d) 0) k o
def NK (mo:Int) (d n:Nat):PM Unit:=fun k o=>if d > o.length then .err 5 else sK (yu mo d) n k o
def CW (b:List UInt8) (mo:Int) (dl:List Int) (s:Nat):PM Unit :=
  if 286≤s then nK 5 else dG (gV b (CV s)) fun x=>dG (uh b dl) fun d =>
    if 30≤d then nK 5 else dG (gV b (lJ d)) fun y=>NK mo (sN d + y.toNat) (AA s + x).toNat
def qL (b:List UInt8) (mo:Int) (ll dl:List Int):Nat→PM Unit
  | 0=>nK 99
  | f + 1=>dG (uh b ll) fun s=>if s = 256 then nJ () else if s < 256 then dG (rH mo (UInt8.ofNat s)) fun _=>qL b mo ll dl f
    else dG (CW b mo dl s) fun _=>qL b mo ll dl f
def yw:List Nat:=[16,17,18,0,8,7,9,6,10,5,11,4,12,3,13,2,14,1,15]
def hcP (b:List UInt8):List Nat→List Int→PM (List Int)
  | [],c=>nJ c
  | i :: r,c=>dG (gV b 3) fun x=>hcP b r (c.set i x)
def uX (n:Nat) (acc:List Int) (x:Int) (t:Nat):PM (List Int):=if n < acc.length + t then nK 5 else nJ (acc ++ List.replicate t x)
def CX (b:List UInt8) (n:Nat) (acc:List Int) (s:Nat):PM (List Int) :=
  if s = 16 then (if acc = [] then nK 5 else dG (gV b 2) fun t=>uX n acc (acc.getLastD 0) (3 + t.toNat))
  else if s = 17 then dG (gV b 3) fun t=>uX n acc 0 (3 + t.toNat)
  else if s = 18 then dG (gV b 7) fun t=>uX n acc 0 (11 + t.toNat)
  else nJ (acc ++ [(s:Int)])
def uj (b:List UInt8) (cl:List Int) (n:Nat):Nat→List Int→PM (List Int)
  | 0,_=>nK 99
  | f + 1,acc=>if n≤acc.length then nJ acc else dG (uh b cl) fun s=>dG (CX b n acc s) fun a2=>uj b cl n f a2
def FZ (l:List Int):Bool:=(l.filter (0 < ·)) == [1]
def F5 (l:List Int):Bool:=(l.filter (0 < ·)) == []
def zk (l:List Int):Bool:=(bn l).2 == 0 && (l.getD 256 0 != 0 && ((bn l).1 || FZ l))
def zn (l:List Int):Bool:=(bn l).2 == 0 && ((bn l).1 || (FZ l || F5 l))
def AB (b:List UInt8) (F:Nat):PM (List Int × List Int):=dG (gV b 5) fun nl=>dG (gV b 5) fun nd=>dG (gV b 4) fun nc =>
  if 286 < 257 + nl∨30 < 1 + nd then nK 5 else dG (hcP b (yw.take (4 + nc).toNat) (List.replicate 19 0)) fun cl =>
    if bn cl = (true,0) then dG (uj b cl ((257 + nl) + (1 + nd)).toNat F []) fun a =>
      if (zk (a.take (257 + nl).toNat) && zn (a.drop (257 + nl).toNat)) = true then nJ (a.take (257 + nl).toNat,a.drop (257 + nl).toNat) else nK 5
    else nK 5
def zo:List Int:=List.replicate 144 8 ++ List.replicate 112 9 ++ List.replicate 24 7 ++ List.replicate 8 8
def yx:List Int:=List.replicate 32 5
structure Blk where
  kind:Int
  last:Bool
  k:Nat
  n:Nat
def F6 (b:List UInt8) (mo:Int) (F:Nat) (t:Int):PM Unit :=
  if t = 0 then FY b mo else if t = 1 then qL b mo zo yx F else if t = 2 then dG (AB b F) fun c=>qL b mo c.1 c.2 F else nK 5
def NM (b:List UInt8) (mo:Int) (F:Nat):PM Blk:=fun k o=>dG (gV b 1) (fun l=>dG (gV b 2) fun t=>dG (F6 b mo F t) fun _=>fun k' o'=>.ok ⟨t,l == 1,k,o'.length - o.length⟩ k' o') k o
def uY (b:List UInt8) (mo:Int) (F:Nat):Nat→PM (List Blk)
  | 0=>nK 99
  | f + 1=>dG (NM b mo F) fun x=>if x.last = true then nJ [x] else dG (uY b mo F f) fun r=>nJ (x :: r)
def J8 (F:Nat) (b:List UInt8) (mo:Int):List UInt8 × Int × Int :=
  if mo < 0 then ([],0,2) else match uY b mo F F 0 [] with
  | .ok _ k o=>(o,((k + 7) / 8:Nat),0)
  | .err e=>([],0,e)
end Go.Proofs.Yteblpjhkgdpchaa
namespace Go.Proofs.Yteblpjhkgdpchaa
open Go.AM
structure Loc {α:Type} (m:List UInt8→Int→PM α):Prop where
  up:∀ b mo k o a k' o',m b mo k o = .ok a k' o'→k≤8 * b.length→k≤k'∧k'≤8 * b.length∧(∃ x,o' = o ++ x)∧((o.length:Int)≤mo→(o'.length:Int)≤mo)
  same:∀ b b2 mo mo2 k o a k' o',m b mo k o = .ok a k' o'→k≤8 * b.length→(∀ i,i < k'→je b2 i = je b i)→k'≤8 * b2.length→(o'.length:Int)≤mo2→m b2 mo2 k o = .ok a k' o'
  cut:∀ b b2 mo k o a k' o',m b mo k o = .ok a k' o'→k≤8 * b.length→(∀ i,i < 8 * b2.length→je b2 i = je b i)→k≤8 * b2.length→8 * b2.length < k'→(o.length:Int)≤mo→m b2 mo k o = .err 4
  few:∀ b mo mo2 k o a k' o',m b mo k o = .ok a k' o'→k≤8 * b.length→(o.length:Int)≤mo2→mo2 < o'.length→m b mo2 k o = .err 3
theorem iy {α:Type} {a a':α} {k k':Nat} {o o':List UInt8} (h:Res.ok a k o = .ok a' k' o'):a = a'∧k = k'∧o = o':=by
  cases h;exact ⟨rfl,rfl,rfl⟩
theorem iZ {α β:Type} {m:PM α} {f:α→PM β} {k k':Nat} {o o':List UInt8} {b:β} (h:dG m f k o = .ok b k' o'):∃ a k1 o1,m k o = .ok a k1 o1∧f a k1 o1 = .ok b k' o':=by
  unfold dG at h
  cases hm:m k o with
  | ok a k1 o1=>rw [hm] at h;exact ⟨a,k1,o1,rfl,h⟩
  | err e=>rw [hm] at h;cases h
theorem fU {α β:Type} {m:PM α} {f:α→PM β} {k k1:Nat} {o o1:List UInt8} {a:α} (h:m k o = .ok a k1 o1):dG m f k o = f a k1 o1:=by
  unfold dG;rw [h]
theorem D8 {α β:Type} {m:PM α} {f:α→PM β} {k:Nat} {o:List UInt8} {e:Int} (h:m k o = .err e):dG m f k o = .err e:=by
  unfold dG;rw [h]
theorem Loc.ret {α:Type} (a:α):Loc (fun _ _=>nJ a) where
  up:=by
    intro b mo k o a' k' o' h hk
    obtain ⟨_,rfl,rfl⟩:=iy h
    exact ⟨Nat.le_refl _,hk,⟨[],by simp⟩,fun h=>h⟩
  same:=fun b b2 mo mo2 k o a k' o' h _ _ _ _=>h
  cut:=by
    intro b b2 mo k o a' k' o' h hk _ h2 h3
    obtain ⟨_,rfl,rfl⟩:=iy h
    omega
  few:=by
    intro b mo mo2 k o a' k' o' h hk h2 h3
    obtain ⟨_,rfl,rfl⟩:=iy h
    omega
theorem Loc.bad {α:Type} (e:Int):Loc (α:=α) (fun _ _=>nK e) where
  up:=by intro b mo k o a' k' o' h;cases h
  same:=by intro b b2 mo mo2 k o a' k' o' h;cases h
  cut:=by intro b b2 mo k o a' k' o' h;cases h
  few:=by intro b mo mo2 k o a' k' o' h;cases h
theorem Loc.bnd {α β:Type} {m:List UInt8→Int→PM α} {f:α→List UInt8→Int→PM β} (hm:Loc m) (hf:∀ a,Loc (f a)):Loc (fun b mo=>dG (m b mo) fun a=>f a b mo) where
  up:=by
    intro b mo k o a' k' o' h hk
    obtain ⟨a,k1,o1,h1,h2⟩:=iZ h
    obtain ⟨e1,e2,⟨x,rfl⟩,e4⟩:=hm.up _ _ _ _ _ _ _ h1 hk
    obtain ⟨f1,f2,⟨y,rfl⟩,f4⟩:=(hf a).up _ _ _ _ _ _ _ h2 e2
    exact ⟨by omega,f2,⟨x ++ y,by simp⟩,fun h=>f4 (e4 h)⟩
  same:=by
    intro b b2 mo mo2 k o a' k' o' h hk hb hl ho
    obtain ⟨a,k1,o1,h1,h2⟩:=iZ h
    obtain ⟨e1,e2,⟨x,rfl⟩,e4⟩:=hm.up _ _ _ _ _ _ _ h1 hk
    obtain ⟨f1,f2,⟨y,rfl⟩,f4⟩:=(hf a).up _ _ _ _ _ _ _ h2 e2
    have e5:=hm.same b b2 mo mo2 k o a k1 _ h1 hk (fun i hi=>hb i (by omega)) (by omega) (by simp at ho ⊢;omega)
    rw [fU e5]
    exact (hf a).same b b2 mo mo2 _ _ _ _ _ h2 e2 hb hl ho
  cut:=by
    intro b b2 mo k o a' k' o' h hk hb hl hc hm0
    obtain ⟨a,k1,o1,h1,h2⟩:=iZ h
    obtain ⟨e1,e2,⟨x,rfl⟩,e4⟩:=hm.up _ _ _ _ _ _ _ h1 hk
    by_cases h3:8 * b2.length < k1
    · rw [D8 (hm.cut b b2 mo k o a k1 _ h1 hk hb hl h3 hm0)]
    · rw [fU (hm.same b b2 mo mo k o a k1 _ h1 hk (fun i hi=>hb i (by omega)) (by omega) (e4 hm0))]
      exact (hf a).cut b b2 mo _ _ _ _ _ h2 e2 hb (by omega) hc (e4 hm0)
  few:=by
    intro b mo mo2 k o a' k' o' h hk h2 h3
    obtain ⟨a,k1,o1,h1,h4⟩:=iZ h
    obtain ⟨e1,e2,⟨x,rfl⟩,e4⟩:=hm.up _ _ _ _ _ _ _ h1 hk
    by_cases h5:mo2 < ((o ++ x).length:Int)
    · rw [D8 (hm.few b mo mo2 k o a k1 _ h1 hk h2 h5)]
    · rw [fU (hm.same b b mo mo2 k o a k1 _ h1 hk (fun _ _=>rfl) e2 (by omega))]
      exact (hf a).few b mo mo2 _ _ _ _ _ h4 e2 (by omega) h3
theorem Loc.look {α:Type} {f:Nat→List UInt8→List UInt8→Int→PM α} (h:∀ k o,Loc (f k o)):Loc (fun b mo k o=>f k o b mo k o) where
  up:=fun b mo k o a k' o' h1 hk=>(h k o).up _ _ _ _ _ _ _ h1 hk
  same:=fun b b2 mo mo2 k o a k' o' h1 hk hb hl ho=>(h k o).same _ _ _ _ _ _ _ _ _ h1 hk hb hl ho
  cut:=fun b b2 mo k o a k' o' h1 hk hb hl hc hm=>(h k o).cut _ _ _ _ _ _ _ _ h1 hk hb hl hc hm
  few:=fun b mo mo2 k o a k' o' h1 hk h2 h3=>(h k o).few _ _ _ _ _ _ _ _ h1 hk h2 h3
theorem Loc.ite {α:Type} {c:Prop} [Decidable c] {m m2:List UInt8→Int→PM α} (h:Loc m) (h2:Loc m2):Loc (fun b mo=>if c then m b mo else m2 b mo):=by
  by_cases hc:c
  · simpa [hc] using h
  · simpa [hc] using h2
theorem Pq:Loc (fun b _=>vS b) where
  up:=by
    intro b mo k o a k' o' h hk
    unfold vS at h
    split at h
    · obtain ⟨_,rfl,rfl⟩:=iy h
      exact ⟨by omega,by omega,⟨[],by simp⟩,fun h=>h⟩
    · cases h
  same:=by
    intro b b2 mo mo2 k o a k' o' h hk hb hl ho
    unfold vS at h ⊢
    split at h
    · obtain ⟨rfl,rfl,rfl⟩:=iy h
      rw [if_pos (by omega),hb k (by omega)]
    · cases h
  cut:=by
    intro b b2 mo k o a k' o' h hk hb hl hc hm
    unfold vS at h ⊢
    split at h
    · obtain ⟨rfl,rfl,rfl⟩:=iy h
      rw [if_neg (by omega)]
    · cases h
  few:=by
    intro b mo mo2 k o a k' o' h hk h2 h3
    unfold vS at h
    split at h
    · obtain ⟨rfl,rfl,rfl⟩:=iy h
      omega
    · cases h
theorem V7:Loc (fun _ _=>Yw) where
  up:=by
    intro b mo k o a k' o' h hk
    obtain ⟨_,rfl,rfl⟩:=iy h
    exact ⟨by omega,by omega,⟨[],by simp⟩,fun h=>h⟩
  same:=fun b b2 mo mo2 k o a k' o' h _ _ _ _=>h
  cut:=by
    intro b b2 mo k o a k' o' h hk hb hl hc hm
    obtain ⟨_,rfl,rfl⟩:=iy h
    omega
  few:=by
    intro b mo mo2 k o a k' o' h hk h2 h3
    obtain ⟨_,rfl,rfl⟩:=iy h
    omega
theorem Dl (c:UInt8):Loc (fun _ mo=>rH mo c) where
  up:=by
    intro b mo k o a k' o' h hk
    unfold rH at h
    split at h
    · obtain ⟨_,rfl,rfl⟩:=iy h
      exact ⟨by omega,by omega,⟨[c],rfl⟩,fun _=>by simp;omega⟩
    · cases h
  same:=by
    intro b b2 mo mo2 k o a k' o' h hk hb hl ho
    unfold rH at h ⊢
    split at h
    · obtain ⟨rfl,rfl,rfl⟩:=iy h
      rw [if_pos (by simp at ho;omega)]
    · cases h
  cut:=by
    intro b b2 mo k o a k' o' h hk hb hl hc hm
    unfold rH at h
    split at h
    · obtain ⟨rfl,rfl,rfl⟩:=iy h
      omega
    · cases h
  few:=by
    intro b mo mo2 k o a k' o' h hk h2 h3
    unfold rH at h ⊢
    split at h
    · obtain ⟨rfl,rfl,rfl⟩:=iy h
      rw [if_neg (by simp at h3;omega)]
    · cases h
theorem iP:∀ n,Loc (fun b _=>gV b n)
  | 0=>Loc.ret 0
  | n + 1=>Loc.bnd (f:=fun x b _=>dG (vS b) fun y=>nJ (x + 2 ^ n * y)) (iP n) fun x=>Loc.bnd (f:=fun y _ _=>nJ (x + 2 ^ n * y)) Pq fun y=>Loc.ret _
theorem Loc.rep {m:List UInt8→Int→PM Unit} (h:Loc m):∀ n,Loc (fun b mo=>sK (m b mo) n)
  | 0=>Loc.ret ()
  | n + 1=>Loc.bnd (f:=fun _ b mo=>sK (m b mo) n) h fun _=>Loc.rep h n
theorem Pv (l codes:List Int):∀ (k i:Nat) (x:Int),Loc (fun b _=>decP b l codes k i x)
  | 0,_,_=>Loc.bad 5
  | k + 1,i,x=>by
    refine Loc.bnd (f:=fun y b _=>match jD i (2 * x + y) l codes 0 with
      | some j=>nJ j
      | none=>decP b l codes k (i + 1) (2 * x + y)) Pq fun y=>?_
    cases jD i (2 * x + y) l codes 0 with
    | some j=>exact Loc.ret j
    | none=>exact Pv l codes k (i + 1) (2 * x + y)
theorem zq (l:List Int):Loc (fun b _=>uh b l):=by
  unfold uh
  exact Loc.ite (Pv l _ _ _ _) (Loc.bad _)
theorem V8:Loc FY:=by
  unfold FY
  refine Loc.bnd (f:=fun _ b mo=>_) V7 fun _=>?_
  refine Loc.bnd (f:=fun n b mo=>_) (iP 16) fun n=>?_
  refine Loc.bnd (f:=fun m b mo=>_) (iP 16) fun m=>?_
  refine Loc.ite (Loc.rep (Loc.bnd (f:=fun c b mo=>_) (iP 8) fun c=>Dl _) _) (Loc.bad 5)
theorem Py (d:Nat):Loc (fun _ mo=>yu mo d):=by
  unfold yu
  exact Loc.look (f:=fun k o b mo=>rH mo (o.getD (o.length - d) 0)) fun k o=>Dl _
theorem V9 (d n:Nat):Loc (fun _ mo=>NK mo d n):=by
  unfold NK
  refine Loc.look (f:=fun k o b mo=>fun k o2=>if d > o.length then .err 5 else sK (yu mo d) n k o2) fun k o=>?_
  by_cases h:d > o.length
  · simp only [h,if_true];exact Loc.bad 5
  · simp only [h,if_false];exact Loc.rep (Py d) n
theorem Pz (dl:List Int) (s:Nat):Loc (fun b mo=>CW b mo dl s):=by
  unfold CW
  refine Loc.ite (Loc.bad 5) ?_
  refine Loc.bnd (f:=fun x b mo=>_) (iP _) fun x=>?_
  refine Loc.bnd (f:=fun d b mo=>_) (zq dl) fun d=>?_
  refine Loc.ite (Loc.bad 5) ?_
  exact Loc.bnd (f:=fun y b mo=>_) (iP _) fun y=>V9 _ _
theorem Dn (ll dl:List Int):∀ F,Loc (fun b mo=>qL b mo ll dl F)
  | 0=>Loc.bad 99
  | f + 1=>by
    unfold qL
    refine Loc.bnd (f:=fun s b mo=>_) (zq ll) fun s=>?_
    refine Loc.ite (Loc.ret ()) (Loc.ite ?_ ?_)
    · exact Loc.bnd (f:=fun _ b mo=>qL b mo ll dl f) (Dl _) fun _=>Dn ll dl f
    · exact Loc.bnd (f:=fun _ b mo=>qL b mo ll dl f) (Pz dl s) fun _=>Dn ll dl f
theorem TG:∀ (r:List Nat) (c:List Int),Loc (fun b _=>hcP b r c)
  | [],c=>Loc.ret c
  | i :: r,c=>Loc.bnd (f:=fun x b _=>hcP b r (c.set i x)) (iP 3) fun x=>TG r _
theorem Ip (n:Nat) (acc:List Int) (x:Int) (t:Nat):Loc (fun _ _=>uX n acc x t):=by
  unfold uX
  exact Loc.ite (Loc.bad 5) (Loc.ret _)
theorem PD (n:Nat) (acc:List Int) (s:Nat):Loc (fun b _=>CX b n acc s):=by
  unfold CX
  refine Loc.ite (Loc.ite (Loc.bad 5) ?_) (Loc.ite ?_ (Loc.ite ?_ (Loc.ret _)))
  · exact Loc.bnd (f:=fun t b _=>_) (iP 2) fun t=>Ip _ _ _ _
  · exact Loc.bnd (f:=fun t b _=>_) (iP 3) fun t=>Ip _ _ _ _
  · exact Loc.bnd (f:=fun t b _=>_) (iP 7) fun t=>Ip _ _ _ _
theorem PE (cl:List Int) (n:Nat):∀ (F:Nat) (acc:List Int),Loc (fun b _=>uj b cl n F acc)
  | 0,_=>Loc.bad 99
  | f + 1,acc=>by
    unfold uj
    refine Loc.ite (Loc.ret acc) ?_
    refine Loc.bnd (f:=fun s b mo=>_) (zq cl) fun s=>?_
    exact Loc.bnd (f:=fun a2 b _=>uj b cl n f a2) (PD n acc s) fun a2=>PE cl n f a2
theorem Wh (F:Nat):Loc (fun b _=>AB b F):=by
  unfold AB
  refine Loc.bnd (f:=fun nl b mo=>_) (iP 5) fun nl=>?_
  refine Loc.bnd (f:=fun nd b mo=>_) (iP 5) fun nd=>?_
  refine Loc.bnd (f:=fun nc b mo=>_) (iP 4) fun nc=>?_
  refine Loc.ite (Loc.bad 5) ?_
  refine Loc.bnd (f:=fun cl b mo=>_) (TG _ _) fun cl=>?_
  refine Loc.ite ?_ (Loc.bad 5)
  refine Loc.bnd (f:=fun a b mo=>_) (PE cl _ F []) fun a=>?_
  exact Loc.ite (Loc.ret _) (Loc.bad 5)
theorem PG (F:Nat) (t:Int):Loc (fun b mo=>F6 b mo F t):=by
  unfold F6
  refine Loc.ite V8 (Loc.ite (Dn _ _ F) (Loc.ite ?_ (Loc.bad 5)))
  exact Loc.bnd (f:=fun c b mo=>qL b mo c.1 c.2 F) (Wh F) fun c=>Dn _ _ F
end Go.Proofs.Yteblpjhkgdpchaa
