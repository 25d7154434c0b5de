/- IG to IP: texts of this claim, one behind the other; what each shows stands at its head. -/
import Derived.Test.YtcllinmgllmpmaaAm3
import Derived.Test.YtcllinmgllmpmaaMg7
set_option linter.unusedSimpArgs false
set_option linter.unusedVariables false
set_option maxRecDepth 100000
set_option maxHeartbeats 8000000
namespace Go.Proofs.Ytcllinmgllmpmaa
open Go.AM
def Cnt (b:List UInt8) (mo:Int) {α β:Type} (m:PM α) (d:α) (s1:Is) (m0:PM β) (d0:β) (s:Is) (f:α→β):Prop:=∀ s2 y,cO b mo m d s1 s2 y→cO b mo m0 d0 s s2 (f y)
theorem Cnt.step {b:List UInt8} {mo:Int} {α β γ:Type} {m:PM γ} {k:γ→PM α} {d:α} {s1 s2:Is} {m0:PM β} {d0:β} {s:Is} {f:α→β} {dx x:γ} (h:Cnt b mo (dD m k) d s1 m0 d0 s f) (h2:cO b mo m dx s1 s2 x):Cnt b mo (k x) d s2 m0 d0 s f:=fun _ _ h3=>h _ _ (h2.bnd h3)
theorem iw {b:List UInt8} {mo:Int} {n:Nat} {s s':Is} {a:Int} (h:cO b mo (fO b n) 0 s s' a) (hs:fM b mo s):0≤a∧a < ((2 ^ n:Nat):Int):=by
 have hp:0 < 2 ^ n:=Nat.pow_pos (by omega)
 by_cases he:s.e = 0
 ·by_cases he2:s'.e = 0
  ·have h1:=(h.fine he2).2
   by_cases hl:s.k + n≤8 * b.length
   ·rw [DV b s.k s.o n hl] at h1
    obtain ⟨rfl,_⟩:=iO h1
    have:=Jk b s.k n
    omega
   ·rw [EC b s.k s.o hs.1 n (by omega)] at h1
    cases h1
  ·have:=(h.err he he2).2
   subst this
   omega
 ·have:=(h.stopped he).2
  subst this
  omega
theorem YU {a m:Nat} (ha:a < 65536) (hm:m < 65536):(a ^^^ m = 65535) ↔ a + m = 65535:=by
 have e1:(BitVec.ofNat 16 a).toNat = a:=by simp;omega
 have e2:(BitVec.ofNat 16 m).toNat = m:=by simp;omega
 have e3:(BitVec.ofNat 16 a ^^^ BitVec.ofNat 16 m).toNat = a ^^^ m:=by rw [BitVec.toNat_xor,e1,e2]
 have e4:(~~~ BitVec.ofNat 16 a).toNat = 65535 - a:=by rw [BitVec.toNat_not,e1]
 constructor
 ·intro h
  have h1:BitVec.ofNat 16 a ^^^ BitVec.ofNat 16 m = BitVec.allOnes 16:=BitVec.eq_of_toNat_eq (by rw [e3,h];rfl)
  have h2:BitVec.ofNat 16 m = ~~~ BitVec.ofNat 16 a:=by
   rw [← BitVec.xor_allOnes,← h1,← BitVec.xor_assoc,BitVec.xor_self,BitVec.zero_xor]
  have h3:=congrArg BitVec.toNat h2
  rw [e2,e4] at h3
  omega
 ·intro h
  have h2:BitVec.ofNat 16 m = ~~~ BitVec.ofNat 16 a:=BitVec.eq_of_toNat_eq (by rw [e2,e4];omega)
  rw [← e3,h2,← BitVec.xor_allOnes,← BitVec.xor_assoc,BitVec.xor_self,BitVec.zero_xor]
  rfl
theorem agc {a m:Nat} (ha:a < 65536) (hm:m < 65536):IntKind.i64.wrap ((AM.bits .i64 (a:Int) ^^^ AM.bits .i64 (m:Int)).toNat:Nat) = ((a ^^^ m:Nat):Int):=by
 have h:=Nat.xor_lt_two_pow (n:=16) ha hm
 rw [BitVec.toNat_xor,Qr (by omega),Qr (by omega),wrap_i64 (by omega) (by omega)]
section
variable {c:Nat} {b:List UInt8} {mo:Int} {t:Nat} {H:AM.Heap} {o:Nat} {oa:Option Nat} {s:Is}
theorem aa5 {m:Nat} {E:AM.Heap} (h:IrV c b mo t E 0 oa s) (hk:s.k≤8 * b.length) (hb:b.length≤100000):∃ E',IrV c b mo t E' 0 oa { s with k:=(s.k + 7) / 8 * 8 }∧∃ code,((Try.f35.body).bind (aI [0])) = some code∧Run X (evT X) 35 m code [(0,.ptr 0 0 0 0)] E ⟨.normal,[(0,.ptr 0 0 0 0)],E'⟩:=by
 obtain ⟨⟨vo,τ1,τ,a1,a2,h0,ho⟩,hne⟩:=id h
 refine ⟨AM.upd E 0 (some (bJ c b mo { s with k:=(s.k + 7) / 8 * 8 } vo τ1 τ)),IrV.set hne a1 a2 h.lt.1 ho,_,rfl,?_⟩
 have w1:IntKind.i64.wrap ((s.k:Int) + 7) = ((s.k + 7:Nat):Int):=by rw [wrap_i64 (by omega) (by omega)];omega
 have w2:((s.k + 7:Nat):Int).tdiv 8 = (((s.k + 7) / 8:Nat):Int):=by rw [Int.tdiv_eq_ediv_of_nonneg (by omega)];omega
 have w2':((s.k + 7:Nat):Int) / 8 = (((s.k + 7) / 8:Nat):Int):=by omega
 have w3:IntKind.i64.wrap ((((s.k + 7) / 8:Nat):Int)) = (((s.k + 7) / 8:Nat):Int):=wrap_i64 (by omega) (by omega)
 have w4:IntKind.i64.wrap ((((s.k + 7) / 8:Nat):Int) * 8) = (((s.k + 7) / 8 * 8:Nat):Int):=by rw [wrap_i64 (by omega) (by omega)];omega
 simp only [bJ] at h0 ⊢
 generalize (s.k + 7) / 8 * 8 = k1 at *
 generalize (s.k + 7) / 8 = k2 at *
 generalize s.k + 7 = k3 at *
 (refine ⟨0,?_⟩;simp (maxSteps:=2000000) -implicitDefEqProofs [-getElem?_pos,go_sem,eqV,ah,h0,w1,w2,w2',w3,w4])
theorem U6 {m n q:Nat} {E:AM.Heap} (h:IrV c b mo t E 0 oa s) (hn:n < 65536) (hq:q < 65536):∃ code,((Try.f35.body).bind (aI [1,1,0,1,0])) = some code∧Run X (evT X) 35 m code [(0,.ptr 0 0 0 0),(2,.int .i64 (n:Nat)),(3,.int .i64 (q:Nat))] E ⟨.normal,[(0,.ptr 0 0 0 0),(2,.int .i64 (n:Nat)),(29,.bool (s.e == 0 && !(n + q == 65535)))],E⟩:=by
 refine ⟨_,rfl,?_⟩
 obtain ⟨⟨vo,τ1,τ,a1,a2,h0,ho⟩,hne⟩:=id h
 simp only [bJ] at h0
 have hX:=agc hn hq
 have hX2:=hX
 simp only [go_sem] at hX2
 by_cases he:s.e = 0
 ·simp only [he,beq_self_eq_true,Bool.true_and]
  rw [he] at h0
  by_cases hx:n + q = 65535
  ·have h1:=(YU hn hq).2 hx
   rw [h1] at hX hX2
   rw [show (n + q == 65535) = true by simpa using hx]
   (refine ⟨0,?_⟩;simp (maxSteps:=2000000) -implicitDefEqProofs [-getElem?_pos,go_sem,eqV,ah,h0,hX,hX2])
  ·have h1:¬ n ^^^ q = 65535:=fun h=>hx ((YU hn hq).1 h)
   rw [show (n + q == 65535) = false by simpa using hx]
   generalize n ^^^ q = z at *
   have h2:((z:Int) != 65535) = true:=by simp;omega
   (refine ⟨0,?_⟩;simp (maxSteps:=2000000) -implicitDefEqProofs [-getElem?_pos,go_sem,eqV,ah,h0,hX,hX2,h2])
 ·rw [show (s.e == 0) = false by simpa using he,Bool.false_and]
  have heb:(s.e == 0) = false:=by simpa using he
  (refine ⟨0,?_⟩;simp (maxSteps:=2000000) -implicitDefEqProofs [-getElem?_pos,go_sem,eqV,ah,h0,he,heb])
def wC (n i:Nat):AM.Frame:=[(0,.ptr 0 0 0 0),(2,.int .i64 (n:Nat)),(4,.int .i64 (i:Nat))]
theorem YV {m n i:Nat} {E:AM.Heap} (h:IrV c b mo t E 0 oa s):∃ code,((Try.f35.body).bind (aI [1,1,1,1,0,0,0,0])) = some code∧Run X (evT X) 35 m code (wC n i) E ⟨.normal,wC n i ++ [(41,.bool (decide (i < n) && (s.e == 0)))],E⟩:=by
 refine ⟨_,rfl,?_⟩
 obtain ⟨⟨vo,τ1,τ,a1,a2,h0,ho⟩,hne⟩:=id h
 simp only [bJ] at h0
 by_cases hi:i < n
 ·have hI:(i:Int) < (n:Int):=by omega
  simp only [wC,hi,decide_true,Bool.true_and]
  (refine ⟨0,?_⟩;simp (maxSteps:=2000000) -implicitDefEqProofs [-getElem?_pos,go_sem,eqV,ah,h0,hI])
 ·have hI:¬ (i:Int) < (n:Int):=by omega
  simp only [wC,hi,decide_false,Bool.false_and]
  (refine ⟨0,?_⟩;simp (maxSteps:=2000000) -implicitDefEqProofs [-getElem?_pos,go_sem,eqV,ah,h0,hI])
def byP (b:List UInt8) (mo:Int):PM Unit:=dD (fO b 8) fun c=>qj mo (UInt8.ofNat c.toNat)
theorem aa6 {m n i:Nat} {E:AM.Heap} {d:Bool} (h:IrV c b mo t E 0 oa s) (hs:fM b mo s) (hb:b.length≤100000) (hm:mo≤1000000):∃ E' oa' s',IrV c b mo t E' 0 oa' s'∧cO b mo (byP b mo) () s s' ()∧Kpt E E' 0 oa oa'∧∃ code,((Try.f35.body).bind (aI [1,1,1,1,0,0,1,0,0])) = some code ∧
  Run X (evT X) 35 m code (wC n i ++ [(41,.bool d)]) E ⟨.normal,wC n i,E'⟩:=by
 obtain ⟨E1,oa1,s1,a,h1,h2,h3,h4⟩:=iZ (n:=8) (I:=8) rfl h hs hb (by omega)
 obtain ⟨ra,rb⟩:=iw h3 hs
 obtain ⟨E2,oa2,s2,g1,g2,g3,g4⟩:=Jh (y:=UInt8.ofNat a.toNat) h2 h3.1 hm
 have hy:(((UInt8.ofNat a.toNat).toNat:Nat):Int) = a:=by
  rw [UInt8.toNat_ofNat',Nat.mod_eq_of_lt (by omega)];omega
 rw [hy] at g1
 refine ⟨E2,oa2,s2,g2,h3.bnd g3,h4.trans g4,_,rfl,?_⟩
 have w:IntKind.u8.wrap a = a:=wrap_u8 (by omega) (by omega)
 simp only [wC]
 (refine ⟨0,?_⟩;simp (maxSteps:=2000000) -implicitDefEqProofs [-getElem?_pos,go_sem,eqV,ah,h1,w,g1])
theorem Ls {m:Nat} {E:AM.Heap} (h:IrV c b mo t E 0 oa s) (hs:fM b mo s) (he:s.e = 0) (hb:b.length≤100000) (hm:mo≤1000000):∃ code,Try.f35.body = some code ∧
  aj (kE fun fr E'=>∃ s' oa',IrV c b mo t E' 0 oa' s'∧(∀ x,oa = some x→oa' = some x)∧cO b mo (BI b mo) () s s' ()) X (evT X) 35 m code [(0,.ptr 0 0 0 0)] E:=by
 refine ⟨_,rfl,?_⟩
 obtain ⟨E0,hV0,hr0⟩:=aa5 (m:=m) h hs.1 hb
 have hs0:fM b mo { s with k:=(s.k + 7) / 8 * 8 }:=⟨by have:=hs.1;simp;omega,hs.2⟩
 have hR0:cO b mo Xo () s { s with k:=(s.k + 7) / 8 * 8 } ():=by
  rw [he]
  exact cO.Qi (by simpa [he] using hs0) he rfl
 apply aj.seq (piece hr0 _ rfl)
 obtain ⟨E1,oa1,s1,n,h1,h2,h3,h4⟩:=iZ (n:=16) (I:=16) rfl hV0 hs0 hb (by omega)
 obtain ⟨na,nb⟩:=iw h3 hs0
 apply aj.seq (fr':=[(0,.ptr 0 0 0 0),(2,.int .i64 n)]) (H':=E1)
 ·(refine ⟨0,?_⟩;simp (maxSteps:=2000000) -implicitDefEqProofs [-getElem?_pos,go_sem,eqV,ah,h1,ak])
 obtain ⟨E2,oa2,s2,q,g1,g2,g3,g4⟩:=iZ (n:=16) (I:=16) rfl h2 h3.1 hb (by omega)
 obtain ⟨qa,qb⟩:=iw g3 h3.1
 obtain ⟨n,rfl⟩:∃ n':Nat,n = (n':Int):=⟨n.toNat,by omega⟩
 obtain ⟨q,rfl⟩:∃ q':Nat,q = (q':Int):=⟨q.toNat,by omega⟩
 apply aj.assoc
 apply aj.seq (fr':=[(0,.ptr 0 0 0 0),(2,.int .i64 (n:Nat)),(3,.int .i64 (q:Nat))]) (H':=E2)
 ·(refine ⟨0,?_⟩;simp (maxSteps:=2000000) -implicitDefEqProofs [-getElem?_pos,go_sem,eqV,ah,g1,ak])
 have hn:n < 65536:=by omega
 have hq:q < 65536:=by omega
 -- the two lengths
 have hP:∃ E3 oa3 s3,IrV c b mo t E3 0 oa3 s3∧(∀ x,oa = some x→oa3 = some x)∧Cnt b mo (rF (byP b mo) n) () s3 (BI b mo) () s (fun u=>u)∧fM b mo s3 ∧
   ∃ code,((Try.f35.body).bind (aI [1,1,0,1])) = some code∧∃ fr,Run X (evT X) 35 m code [(0,.ptr 0 0 0 0),(2,.int .i64 (n:Nat)),(3,.int .i64 (q:Nat))] E2 ⟨.normal,fr,E3⟩∧au fr 0 = .ptr 0 0 0 0∧au fr 2 = .int .i64 (n:Nat):=by
  have hc:Cnt b mo (if (n:Int) + (q:Int) = 65535 then rF (byP b mo) n else nU 5) () s2 (BI b mo) () s (fun u=>u):=by
   intro s4 y hy
   have:=hR0.bnd (f:=fun _=>dD (fO b 16) fun n=>dD (fO b 16) fun m=>if n + m = 65535 then rF (dD (fO b 8) fun c=>qj mo (UInt8.ofNat c.toNat)) n.toNat else nU 5) (h3.bnd (f:=fun n=>dD (fO b 16) fun m=>if n + m = 65535 then rF (dD (fO b 8) fun c=>qj mo (UInt8.ofNat c.toNat)) n.toNat else nU 5) (g3.bnd (f:=fun m=>if (n:Int) + m = 65535 then rF (dD (fO b 8) fun c=>qj mo (UInt8.ofNat c.toNat)) (n:Int).toNat else nU 5) (by rw [Int.toNat_natCast];exact hy)))
   exact this
  by_cases hx:n + q = 65535
  ·rw [if_pos (by omega)] at hc
   refine ⟨E2,oa2,s2,g2,fun a ha=>g4.same a (h4.same a ha),hc,g3.1,_,rfl,[(0,.ptr 0 0 0 0),(2,.int .i64 (n:Nat)),(29,.bool false)],?_,rfl,rfl⟩
   have h3:=U6 (m:=m) g2 hn hq
   rw [show (n + q == 65535) = true by simpa using hx,Bool.not_true,Bool.and_false] at h3
   apply Run.seq (piece h3 _ rfl)
   exact Run.cond (d:=false) rfl ⟨0,rfl⟩
  ·rw [if_neg (by omega)] at hc
   by_cases he2:s2.e = 0
   ·obtain ⟨E3,oa3,k1,k2,k3⟩:=qQ (e:=5) g2
    refine ⟨E3,oa3,_,k2,fun a ha=>k3.same a (g4.same a (h4.same a ha)),?_,by unfold gJ;split <;> exact ⟨g3.1.1,g3.1.2⟩,_,rfl,[(0,.ptr 0 0 0 0),(2,.int .i64 (n:Nat))],?_,rfl,rfl⟩
    ·intro s4 y hy
     have hf:(gJ s2 5).e ≠ 0:=by unfold gJ;rw [if_pos he2];simp
     obtain ⟨rfl,rfl⟩:=hy.stopped hf
     exact hc _ _ (cO.bad g3.1 (by simp))
    ·have h3:=U6 (m:=m) g2 hn hq
     rw [show (n + q == 65535) = false by simpa using hx,he2] at h3
     apply Run.seq (piece h3 _ rfl)
     refine Run.cond (d:=true) rfl ?_
     (refine ⟨0,?_⟩;simp (maxSteps:=2000000) -implicitDefEqProofs [-getElem?_pos,go_sem,eqV,ah,k1])
   ·refine ⟨E2,oa2,s2,g2,fun a ha=>g4.same a (h4.same a ha),?_,g3.1,_,rfl,[(0,.ptr 0 0 0 0),(2,.int .i64 (n:Nat)),(29,.bool false)],?_,rfl,rfl⟩
    ·intro s4 y hy
     obtain ⟨rfl,rfl⟩:=hy.stopped he2
     exact hc _ _ (cO.stop g3.1 he2)
    ·have h3:=U6 (m:=m) g2 hn hq
     rw [show (s2.e == 0) = false by simpa using he2,Bool.false_and] at h3
     apply Run.seq (piece h3 _ rfl)
     exact Run.cond (d:=false) rfl ⟨0,rfl⟩
 obtain ⟨E3,oa3,s3,hV3,hm3,hC3,hs3,aa7,hcode3,fr3,hr3,f0,f2⟩:=hP
 apply aj.seq (fr':=fr3) (H':=E3)
 ·exact (Option.some.inj hcode3) ▸ hr3
 apply aj.seq (fr':=wC n 0) (H':=E3)
 ·simp only [wC]
  (refine ⟨0,?_⟩;simp (maxSteps:=2000000) -implicitDefEqProofs [-getElem?_pos,go_sem,eqV,ah,f0,f2,ak])
 refine aj.mono (Q:=Goes fun fr E'=>∃ s' oa',IrV c b mo t E' 0 oa' s'∧(∀ x,oa = some x→oa' = some x)∧cO b mo (BI b mo) () s s' ()) ?_ fun o h=>⟨.inl h.1,h.2⟩
 apply aj.block
 refine aj.kF (I:=fun k fr E'=>∃ oa' s' i,i≤n∧k = n - i∧fr = wC n i∧IrV c b mo t E' 0 oa' s'∧(∀ a,oa = some a→oa' = some a)∧fM b mo s'∧Cnt b mo (rF (byP b mo) (n - i)) () s' (BI b mo) () s (fun u=>u)) ?_ (k:=n) ⟨oa3,s3,0,by omega,by omega,rfl,hV3,hm3,hs3,hC3⟩
 rintro k fr E' ⟨oa',s',i,hi,rfl,rfl,hV,hm',hs',hC⟩
 by_cases hin:i < n∧s'.e = 0
 ·obtain ⟨E5,oa5,s5,v1,v2,v3,hr8⟩:=aa6 (m:=m) (n:=n) (i:=i) (d:=true) hV hs' hb hm
  refine aj.of (o:=⟨.normal,wC n (i + 1),E5⟩) ?_ (.inl ⟨rfl,n - (i + 1),by omega,oa5,s5,i + 1,by omega,rfl,rfl,v1,fun a ha=>v3.same a (hm' a ha),v2.1,?_⟩)
  ·have h6:=YV (m:=m) (n:=n) (i:=i) hV
   rw [show decide (i < n) = true by simp [hin.1],hin.2] at h6
   apply Run.seq (fr':=wC n i ++ [(41,.bool true)]) (H':=E')
   ·apply Run.seq (piece h6 _ rfl)
    refine ⟨0,?_⟩
    simp only [wC]
    simp (maxSteps:=2000000) -implicitDefEqProofs [-getElem?_pos,go_sem,eqV,ah]
   apply Run.seq (fr':=wC n i) (H':=E5)
   ·apply Run.block
    ·exact piece hr8 _ rfl
    ·simp
   ·have w:IntKind.i64.wrap ((i:Int) + 1) = ((i + 1:Nat):Int):=by rw [wrap_i64 (by omega) (by omega)];omega
    simp only [wC]
    (refine ⟨0,?_⟩;simp (maxSteps:=2000000) -implicitDefEqProofs [-getElem?_pos,go_sem,eqV,ah,w,ak])
  ·have:n - i = (n - (i + 1)) + 1:=by omega
   rw [this] at hC
   exact Cnt.step (m:=byP b mo) (k:=fun _=>rF (byP b mo) (n - (i + 1))) hC v2
 ·refine aj.of (o:=⟨.exit 0,wC n i ++ [(41,.bool false)],E'⟩) ?_ (.inr ⟨by simp,rfl,s',oa',hV,hm',?_⟩)
  ·have h6:=YV (m:=m) (n:=n) (i:=i) hV
   have hd:(decide (i < n) && (s'.e == 0)) = false:=by
    by_cases h1:i < n
    ·have:¬ s'.e = 0:=fun h=>hin ⟨h1,h⟩
     simp [this]
    ·simp [h1]
   rw [hd] at h6
   apply Run.bH
   ·apply Run.seq (piece h6 _ rfl)
    refine ⟨0,?_⟩
    simp only [wC]
    simp (maxSteps:=2000000) -implicitDefEqProofs [-getElem?_pos,go_sem,eqV,ah]
   ·simp
  ·refine hC _ () ?_
   by_cases h1:s'.e = 0
   ·have:n - i = 0:=by
     have:¬ i < n:=fun h=>hin ⟨h,h1⟩
     omega
    rw [this]
    exact cO.ret hs' fun _=>rfl
   ·exact cO.stop hs' h1
theorem SG (h:IrV c b mo t H o oa s) (hs:fM b mo s) (he:s.e = 0) (hb:b.length≤100000) (hm:mo≤1000000):∃ H' oa' s',evT X 35 [.ptr o 0 0 0] H = some (.tup [],H')∧IrV c b mo t H' o oa' s'∧cO b mo (BI b mo) () s s' ()∧Kpt H H' o oa oa':=by
 obtain ⟨code,hc⟩:∃ code,Try.f35.body = some code:=⟨_,rfl⟩
 obtain ⟨H',oa',s',a,h1,h2,h3,h4⟩:=BF (f:=35) (n:=2) (xs:=[]) (ys:=[]) (m:=BI b mo) (d:=()) (v:=fun _=>[]) Try.func35 hc rfl h (fun π K _=>fK.nil) rfl rfl (by simp [dG]) (fun _=>⟨rfl,rfl,rfl⟩) (by
  intro mm E oa1 hE
  obtain ⟨code,hc,ht⟩:=Ls (m:=mm) hE hs he hb hm
  refine ⟨code,hc,?_⟩
  rw [aa8]
  refine ht.mono fun o ho=>⟨ho.1,?_⟩
  obtain ⟨s',oa',q1,q2,q3⟩:=ho.2
  exact ⟨s',oa',(),rfl,q1,q2,q3⟩)
 exact ⟨H',oa',s',h1,h2,h3,h4⟩
end
end Go.Proofs.Ytcllinmgllmpmaa
namespace Go.Proofs.Ytcllinmgllmpmaa
open Go.AM
def BJ:List AV:=OB.map fun p=>.pc [.int .i64 p.1,.int .i64 (p.2:Nat)]
def Lu:AM.Obj:=⟨.pr 2 BJ,0,some 29,1,false,true,0⟩
theorem agd (x y:Int):mO X 107 [(0,.int .i64 x),(1,.int .i64 y)] = some (.agg (.pi .i64 [x,y])):=by kernel_rfl
theorem aa9:mO X 108 [(0,.agg (.pi .i64 [3,0])),(1,.agg (.pi .i64 [4,0])),(2,.agg (.pi .i64 [5,0])),(3,.agg (.pi .i64 [6,0])),(4,.agg (.pi .i64 [7,0])),(5,.agg (.pi .i64 [8,0])),(6,.agg (.pi .i64 [9,0])),(7,.agg (.pi .i64 [10,0])),(8,.agg (.pi .i64 [11,1])),(9,.agg (.pi .i64 [13,1])),(10,.agg (.pi .i64 [15,1])),(11,.agg (.pi .i64 [17,1])),(12,.agg (.pi .i64 [19,2])),(13,.agg (.pi .i64 [23,2])),(14,.agg (.pi .i64 [27,2])),(15,.agg (.pi .i64 [31,2])),(16,.agg (.pi .i64 [35,3])),(17,.agg (.pi .i64 [43,3])),(18,.agg (.pi .i64 [51,3])),(19,.agg (.pi .i64 [59,3])),(20,.agg (.pi .i64 [67,4])),(21,.agg (.pi .i64 [83,4])),(22,.agg (.pi .i64 [99,4])),(23,.agg (.pi .i64 [115,4])),(24,.agg (.pi .i64 [131,5])),(25,.agg (.pi .i64 [163,5])),(26,.agg (.pi .i64 [195,5])),(27,.agg (.pi .i64 [227,5])),(28,.agg (.pi .i64 [258,0]))] = some (.agg (.pr 2 BJ)):=by kernel_rfl
theorem EF:BJ.length = 29:=rfl
theorem SH {s:Nat} (h:257≤s) (h2:s < 286):BJ[s - 257]? = some (.pc [.int .i64 (BK s),.int .i64 (DF s:Nat)]):=by
 have hl:s - 257 < OB.length:=by show s - 257 < 29;omega
 unfold BJ BK DF
 rw [List.getElem?_map,List.getElem?_eq_getElem hl,List.getD_eq_getElem?_getD,List.getElem?_eq_getElem hl]
 rfl
theorem Qs {s:Nat} (h:257≤s) (h2:s < 286):3≤BK s∧BK s≤258∧DF s≤5:=by
 have key:(List.range 29).all (fun i=>decide (3≤(OB.getD i (0,0)).1) && (decide ((OB.getD i (0,0)).1≤258) && decide ((OB.getD i (0,0)).2≤5))) = true:=by kernel_rfl
 have:=List.all_eq_true.1 key (s - 257) (List.mem_range.2 (by omega))
 simp only [Bool.and_eq_true,decide_eq_true_eq] at this
 exact this
section
variable {c:Nat} {b:List UInt8} {mo:Int} {t:Nat} {H:AM.Heap} {o:Nat} {oa:Option Nat} {s:Is}
theorem IrV.reach (h:IrV c b mo t H o oa s):AM.reach H aB [o] [] = o :: oa.toList:=by
 obtain ⟨⟨vo,τ1,τ,_,_,h0,ho⟩,hne⟩:=h
 cases oa with
 | none =>
  obtain ⟨_,τ2,_,rfl⟩:=ho
  exact qB h0 (by simp [bJ,ids,aA])
 | some a =>
  obtain ⟨g,τ2,ob,_,rfl,h3,h4⟩:=ho
  have hi:=h4.ids
  have hne':=hne a rfl
  show AM.reach _ (99996 + 1 + 1 + 1 + 1) [o] [] = [o,a]
  simp [AM.reach,h0,h3,bJ,ids,aA,hi,hne']
theorem abb {m cd sy:Nat} {dl:List Int} {E:AM.Heap}:∃ code,((Try.f66.body).bind (aI [0])) = some code∧Run X (evT X) 66 m code [(0,.ptr 0 0 0 0),(1,.int .i64 (sy:Nat)),(2,.ro cd (.pi .i64 dl) 3)] E
  ⟨.normal,[(0,.ptr 0 0 0 0),(1,.int .i64 (sy:Nat)),(2,.ro cd (.pi .i64 dl) 3),(6,.ptr E.length 0 0 0)],E ++ [some Lu]⟩:=by
 refine ⟨_,rfl,?_⟩
 simp only [Lu]
 (refine ⟨0,?_⟩;simp (maxSteps:=2000000) -implicitDefEqProofs [-getElem?_pos,go_sem,eqV,ah,agd,aa9,yO,uM,EF])
theorem IrV.off {j:Nat} (h:∀ a,oa = some a→j ≠ a) (h0:j ≠ o):j ∉ o :: oa.toList:=by
 intro hm
 rcases List.mem_cons.1 hm with h1 | h1
 ·exact h0 h1
 ·exact h j (by simpa using h1) rfl
theorem abd {m cd sy j:Nat} {dl:List Int} {E:AM.Heap} {d:Bool} (h:IrV c b mo t E 0 oa s) (hs:fM b mo s) (hb:b.length≤100000) (LD:257≤sy) (U7:sy < 286) (hj:E[j]? = some (some Lu)) (hj0:j ≠ 0) (hja:∀ a,oa = some a→j ≠ a) :
  ∃ E' oa' s',∃ x:Int,IrV c b mo t E' 0 oa' s'∧cO b mo (fO b (DF sy)) 0 s s' x∧Kpt E E' 0 oa oa'∧∃ code,((Try.f66.body).bind (aI [1,1,0])) = some code∧Run X (evT X) 66 m code
   [(0,.ptr 0 0 0 0),(1,.int .i64 (sy:Nat)),(2,.ro cd (.pi .i64 dl) 3),(6,.ptr j 0 0 0),(44,.bool d)] E ⟨.normal,[(0,.ptr 0 0 0 0),(2,.ro cd (.pi .i64 dl) 3),(7,.int .i64 (BK sy + x))],E'⟩:=by
 have hrow:=SH LD U7
 obtain ⟨hb3,hb4,hb5⟩:=Qs LD U7
 obtain ⟨E1,oa1,s1,x,h1,h2,h3,h4⟩:=iZ (n:=DF sy) (I:=(DF sy:Nat)) rfl h hs hb (by omega)
 obtain ⟨xa,xb⟩:=iw h3 hs
 have hp:2 ^ DF sy≤2 ^ 5:=Nat.pow_le_pow_right (by omega) hb5
 refine ⟨E1,oa1,s1,x,h2,h3,h4,_,rfl,?_⟩
 have hre:=h.reach
 have hoff:=IrV.off (o:=0) hja hj0
 have hjl:=eY hj
 have w1:IntKind.i64.wrap ((sy:Int) - 257) = ((sy - 257:Nat):Int):=by rw [wrap_i64 (by omega) (by omega)];omega
 have w2:IntKind.i64.wrap (BK sy + x) = BK sy + x:=wrap_i64 (by omega) (by omega)
 have h29:sy - 257 < 29:=by omega
 have agf:((sy - 257:Nat):Int) < 29:=by omega
 generalize BK sy = B at *
 generalize DF sy = Xb at *
 generalize sy - 257 = i at *
 generalize 0 :: oa.toList = L at *
 simp only [Lu] at hj
 have hll:=EF
 generalize BJ = R at *
 apply Run.dy (by simp) U8 (by simp)
 ·(conv=>lhs;simp (maxSteps:=2000000) -implicitDefEqProofs [-getElem?_pos,go_sem,eqV,ah,jS,out1,bP,lD,jA,pushes,jE,ig,touched,mentioned,iR,fD,bZ,lF,Op.operands,ids,aA,aG,dS,dN,gI,jV,w1,hj,hrow,h1,w2,hre,hll,h29,agf,ak,iT])
 ·refine jC (ps:=[(0,5),(1,5),(2,5),(3,5),(4,5),(0,6),(1,6),(2,6),(3,6),(4,6),(5,6),(0,7),(1,7),(2,7),(3,7),(4,7),(5,7),(0,8),(1,8),(2,8),(3,8),(4,8),(5,8),(0,9),(1,9),(2,9),(3,9),(4,9),(5,9),(0,10),(1,10),(2,10),(3,10),(4,10),(5,10),(0,11),(1,11),(2,11),(3,11),(4,11)]) (by kernel_rfl) ?_
  by_cases hl:E1.length = E.length
  ·simp [vH,bear,disjoint,kX,Call.operands,aF,au,aA,ids,iT,hl,hoff,hjl]
  ·simp [vH,bear,disjoint,kX,Call.operands,aF,au,aA,ids,iT,hl,hoff,hjl]
 ·rfl
end
end Go.Proofs.Ytcllinmgllmpmaa
namespace Go.Proofs.Ytcllinmgllmpmaa
open Go.AM
section
variable {c:Nat} {b:List UInt8} {mo:Int} {t:Nat} {H:AM.Heap} {o:Nat} {oa:Option Nat} {s:Is}
theorem Xp {d:Nat} (h:d < 30):lW d≤13:=by unfold lW;split <;> omega
theorem Qu {d:Nat} (h:d < 30):1≤tN d∧tN d≤40000:=by
 unfold tN
 split
 ·omega
 ·have:2 ^ (d / 2 - 1)≤2 ^ 13:=Nat.pow_le_pow_right (by omega) (by omega)
  have h2:(2 + d % 2) * 2 ^ (d / 2 - 1)≤3 * 2 ^ 13:=Nat.mul_le_mul (by omega) this
  omega
def zU (n:Int) (d:Nat):AM.Frame:=[(0,.ptr 0 0 0 0),(7,.int .i64 n),(8,.int .i64 (d:Nat))]
def wE (n:Int) (k:Int):AM.Frame:=[(0,.ptr 0 0 0 0),(7,.int .i64 n),(9,.int .i64 k)]
theorem abe {m d:Nat} {n:Int} {E:AM.Heap} (h:IrV c b mo t E 0 oa s):∃ code,((Try.f66.body).bind (aI [1,1,1,1,0,0])) = some code∧Run X (evT X) 66 m code (zU n d) E ⟨.normal,zU n d ++ [(67,.bool (s.e != 0))],E⟩:=by
 refine ⟨_,rfl,?_⟩
 obtain ⟨⟨vo,τ1,τ,a1,a2,h0,ho⟩,hne⟩:=id h
 simp only [bJ] at h0
 by_cases he:s.e = 0
 ·rw [he] at h0 ⊢
  simp only [zU]
  (refine ⟨0,?_⟩;simp (maxSteps:=2000000) -implicitDefEqProofs [-getElem?_pos,go_sem,eqV,ah,h0])
 ·have heb:(s.e != 0) = true:=by simpa using he
  simp only [zU]
  (refine ⟨0,?_⟩;simp (maxSteps:=2000000) -implicitDefEqProofs [-getElem?_pos,go_sem,eqV,ah,h0,he,heb])
theorem Zg {m d:Nat} {n:Int} {E:AM.Heap} (h:IrV c b mo t E 0 oa s) (hs:fM b mo s) (hb:b.length≤100000) (hd:d < 30) (h4:4≤d):∃ E' oa' s',∃ y:Int,IrV c b mo t E' 0 oa' s'∧cO b mo (fO b (lW d)) 0 s s' y∧Kpt E E' 0 oa oa'∧∃ code,((Try.f66.body).bind (aI [1,1,1,1,1,1,1,0,1,0,1])) = some code ∧
  Run X (evT X) 66 m code [(0,.ptr 0 0 0 0),(7,.int .i64 n),(8,.int .i64 (d:Nat)),(10,.int .i64 (lW d:Nat))] E ⟨.normal,wE n ((tN d:Nat) + y),E'⟩:=by
 have hx:=Xp hd
 obtain ⟨hb1,hb2⟩:=Qu hd
 obtain ⟨E1,oa1,s1,y,h1,h2,h3,h4'⟩:=iZ (n:=lW d) (I:=(lW d:Nat)) rfl h hs hb (by omega)
 obtain ⟨ya,yb⟩:=iw h3 hs
 have hp:2 ^ lW d≤2 ^ 13:=Nat.pow_le_pow_right (by omega) hx
 refine ⟨E1,oa1,s1,y,h2,h3,h4',_,rfl,?_⟩
 have e3:((d:Nat):Int).tmod 2 = ((d % 2:Nat):Int):=by rw [Int.tmod_eq_emod_of_nonneg (by omega)];omega
 have e4:((d:Nat):Int) % 2 = ((d % 2:Nat):Int):=by omega
 have w1:IntKind.i64.wrap (2 + ((d % 2:Nat):Int)) = ((2 + d % 2:Nat):Int):=by rw [wrap_i64 (by omega) (by omega)];omega
 have hdb:tN d = 1 + (2 + d % 2) * 2 ^ lW d:=by unfold tN lW;rw [if_neg (by omega),if_neg (by omega)]
 have hm:min (lW d) 64 = lW d:=by omega
 have w2:IntKind.i64.wrap (((2 + d % 2:Nat):Int) * 2 ^ lW d) = (((2 + d % 2) * 2 ^ lW d:Nat):Int):=by
  rw [show ((2 + d % 2:Nat):Int) * 2 ^ lW d = (((2 + d % 2) * 2 ^ lW d:Nat):Int) by simp]
  exact wrap_i64 (by omega) (by omega)
 have w3:IntKind.i64.wrap (1 + (((2 + d % 2) * 2 ^ lW d:Nat):Int)) = ((tN d:Nat):Int):=by rw [hdb,wrap_i64 (by omega) (by omega)];omega
 have w4:IntKind.i64.wrap (((tN d:Nat):Int) + y) = ((tN d:Nat):Int) + y:=wrap_i64 (by omega) (by omega)
 have hx0:¬ ((lW d:Nat):Int) < 0:=by omega
 generalize (2 + d % 2) * 2 ^ lW d = w at *
 generalize lW d = q at *
 generalize tN d = B at *
 generalize 2 + d % 2 = r at *
 generalize d % 2 = p at *
 simp only [wE]
 (refine ⟨0,?_⟩;simp (maxSteps:=2000000) -implicitDefEqProofs [-getElem?_pos,go_sem,eqV,ah,h1,e3,e4,w1,hm,w2,w3,w4,hx0,ak])
theorem Zh {m k:Nat} {n:Int} {E:AM.Heap} {fr:AM.Frame} (g0:au fr 0 = .ptr 0 0 0 0) (g7:au fr 7 = .int .i64 n) (g9:au fr 9 = .int .i64 (k:Nat)) (h:IrV c b mo t E 0 oa s):∃ code,((Try.f66.body).bind (aI [1,1,1,1,1,1,1,1,0,0])) = some code∧Run X (evT X) 66 m code fr E ⟨.normal,wE n (k:Nat) ++ [(102,.bool (s.e == 0 && decide (s.o.length < k)))],E⟩:=by
 refine ⟨_,rfl,?_⟩
 obtain ⟨⟨vo,τ1,τ,a1,a2,h0,ho⟩,hne⟩:=id h
 simp only [bJ] at h0
 by_cases he:s.e = 0
 ·rw [he] at h0 ⊢
  simp only [beq_self_eq_true,Bool.true_and,wE]
  have hd:decide (s.o.length < k) = decide ((s.o.length:Int) < (k:Int)):=by
   by_cases h1:s.o.length < k
   ·rw [decide_eq_true h1,decide_eq_true (by omega)]
   ·rw [decide_eq_false h1,decide_eq_false (by omega)]
  rw [hd]
  cases oa with
  | none =>
   obtain ⟨h1,τ2,hτ2,rfl⟩:=ho
   rw [h1]
   (refine ⟨0,?_⟩;simp (maxSteps:=2000000) -implicitDefEqProofs [-getElem?_pos,go_sem,eqV,ah,g0,g7,g9,h0])
  | some a =>
   obtain ⟨g,τ2,ob,hτ2,rfl,h3,h4⟩:=ho
   have hg:=h4.g
   generalize s.o.length = N at *
   (refine ⟨0,?_⟩;simp (maxSteps:=2000000) -implicitDefEqProofs [-getElem?_pos,go_sem,eqV,ah,g0,g7,g9,h0,h3,hg])
 ·rw [show (s.e == 0) = false by simpa using he,Bool.false_and]
  have heb:(s.e == 0) = false:=by simpa using he
  simp only [wE]
  (refine ⟨0,?_⟩;simp (maxSteps:=2000000) -implicitDefEqProofs [-getElem?_pos,go_sem,eqV,ah,g0,g7,g9,h0,he,heb])
def vJ (n k:Int) (i:Nat):AM.Frame:=[(0,.ptr 0 0 0 0),(7,.int .i64 n),(9,.int .i64 k),(11,.int .i64 (i:Nat))]
theorem Zi {m n i:Nat} {k:Int} {E:AM.Heap} (h:IrV c b mo t E 0 oa s):∃ code,((Try.f66.body).bind (aI [1,1,1,1,1,1,1,1,1,1,0,0,0,0])) = some code∧Run X (evT X) 66 m code (vJ (n:Nat) k i) E ⟨.normal,vJ (n:Nat) k i ++ [(114,.bool (decide (i < n) && (s.e == 0)))],E⟩:=by
 refine ⟨_,rfl,?_⟩
 obtain ⟨⟨vo,τ1,τ,a1,a2,h0,ho⟩,hne⟩:=id h
 simp only [bJ] at h0
 by_cases hi:i < n
 ·have hI:(i:Int) < (n:Int):=by omega
  simp only [vJ,hi,decide_true,Bool.true_and]
  (refine ⟨0,?_⟩;simp (maxSteps:=2000000) -implicitDefEqProofs [-getElem?_pos,go_sem,eqV,ah,h0,hI])
 ·have hI:¬ (i:Int) < (n:Int):=by omega
  simp only [vJ,hi,decide_false,Bool.false_and]
  (refine ⟨0,?_⟩;simp (maxSteps:=2000000) -implicitDefEqProofs [-getElem?_pos,go_sem,eqV,ah,h0,hI])
theorem Zj {m n i k:Nat} {E:AM.Heap} {d:Bool} (h:IrV c b mo t E 0 oa s) (hs:fM b mo s) (he:s.e = 0) (hm:mo≤1000000) (hk:1≤k) (hk2:k≤s.o.length):∃ E' oa' s',IrV c b mo t E' 0 oa' s'∧cO b mo (yP mo k) () s s' ()∧Kpt E E' 0 oa oa'∧∃ code,((Try.f66.body).bind (aI [1,1,1,1,1,1,1,1,1,1,0,0,1,0,0])) = some code ∧
  Run X (evT X) 66 m code (vJ (n:Nat) (k:Nat) i ++ [(114,.bool d)]) E ⟨.normal,vJ (n:Nat) (k:Nat) i,E'⟩:=by
 obtain ⟨⟨vo,τ1,τ,a1,a2,h0,ho⟩,hne⟩:=id h
 have hlt:s.o.length - k < s.o.length:=by omega
 obtain ⟨y,hy⟩:∃ y,s.o[s.o.length - k]? = some y:=⟨_,List.getElem?_eq_getElem hlt⟩
 have hyd:s.o.getD (s.o.length - k) 0 = y:=by rw [List.getD_eq_getElem?_getD,hy];rfl
 obtain ⟨E1,oa1,s1,h1,h2,h3,h4⟩:=Jh (y:=y) h hs hm
 refine ⟨E1,oa1,s1,h2,?_,h4,_,rfl,?_⟩
 ·obtain ⟨r1,r2⟩:=h3
  refine ⟨r1,?_⟩
  rw [if_pos he] at r2 ⊢
  unfold yP
  rw [hyd]
  exact r2
 ·simp only [bJ] at h0
  cases oa with
  | none=>obtain ⟨h1,_⟩:=ho;rw [h1] at hk2;simp at hk2;omega
  | some a =>
   obtain ⟨g,τ2,ob,hτ2,rfl,q3,q4⟩:=ho
   have hg:=q4.g
   have hp:=q4.p
   have hi:=q4.ids
   have w:IntKind.i64.wrap ((s.o.length:Int) - (k:Int)) = ((s.o.length - k:Nat):Int):=by rw [wrap_i64 (by have:=hs.2;omega) (by have:=hs.2;omega)];omega
   have hI:((s.o.length - k:Nat):Int) < (s.o.length:Int):=by omega
   have hgen:0 + (s.o.length - k) = s.o.length - k:=by omega
   simp only [vJ]
   generalize s.o.length - k = q at *
   generalize s.o.length = N at *
   (refine ⟨0,?_⟩;simp (maxSteps:=2000000) -implicitDefEqProofs [-getElem?_pos,go_sem,eqV,ah,h0,q3,hg,hp,hi,w,hI,hy,h1])
end
end Go.Proofs.Ytcllinmgllmpmaa
namespace Go.Proofs.Ytcllinmgllmpmaa
open Go.AM
section
variable {c:Nat} {b:List UInt8} {mo:Int} {t:Nat} {H:AM.Heap} {o:Nat} {oa:Option Nat} {s:Is}
theorem zV {e:Int} (hs:fM b mo s):fM b mo (gJ s e):=by
 unfold gJ;split <;> exact ⟨hs.1,hs.2⟩
theorem Xq {m d:Nat} {n:Int} {E:AM.Heap} (h:IrV c b mo t E 0 oa s) (hs:fM b mo s) (hb:b.length≤100000) (hd:d < 30):∃ E' oa' s',∃ y:Nat,IrV c b mo t E' 0 oa' s'∧cO b mo (fO b (lW d)) 0 s s' (y:Nat)∧Kpt E E' 0 oa oa'∧∃ code,((Try.f66.body).bind (aI [1,1,1,1,1,1,1,0])) = some code ∧
  ∃ fr,Run X (evT X) 66 m code [(0,.ptr 0 0 0 0),(7,.int .i64 n),(8,.int .i64 (d:Nat)),(9,.int .i64 ((1 + d:Nat):Int))] E ⟨.normal,fr,E'⟩∧aZ [0,7,9] fr = wE n ((tN d + y:Nat):Int):=by
 by_cases h4:4≤d
 ·obtain ⟨E1,oa1,s1,y,h1,h2,h3,hr⟩:=Zg (m:=m) (n:=n) h hs hb hd h4
  obtain ⟨ya,yb⟩:=iw h2 hs
  obtain ⟨y,rfl⟩:∃ y':Nat,y = (y':Int):=⟨y.toNat,by omega⟩
  refine ⟨E1,oa1,s1,y,h1,h2,h3,_,rfl,wE n ((tN d:Nat) + (y:Nat)),?_,?_⟩
  ·have h4I:(4:Int)≤((d:Nat):Int):=by omega
   apply Run.seq (fr':=[(0,.ptr 0 0 0 0),(7,.int .i64 n),(8,.int .i64 (d:Nat)),(9,.int .i64 ((1 + d:Nat):Int)),(75,.bool true)]) (H':=E)
   ·(refine ⟨0,?_⟩;simp (maxSteps:=2000000) -implicitDefEqProofs [-getElem?_pos,go_sem,eqV,ah,h4I])
   refine Run.cond (d:=true) rfl ?_
   apply Run.seq (fr':=[(0,.ptr 0 0 0 0),(7,.int .i64 n),(8,.int .i64 (d:Nat)),(10,.int .i64 (lW d:Nat))]) (H':=E)
   ·have e1:((d:Nat):Int).tdiv 2 = ((d / 2:Nat):Int):=by rw [Int.tdiv_eq_ediv_of_nonneg (by omega)];omega
    have e2:((d:Nat):Int) / 2 = ((d / 2:Nat):Int):=by omega
    have w1:IntKind.i64.wrap (((d / 2:Nat):Int)) = ((d / 2:Nat):Int):=wrap_i64 (by omega) (by omega)
    have w2:IntKind.i64.wrap (((d / 2:Nat):Int) - 1) = ((lW d:Nat):Int):=by
     unfold lW
     rw [if_neg (by omega),wrap_i64 (by omega) (by omega)];omega
    generalize lW d = q at *
    generalize d / 2 = p at *
    (refine ⟨0,?_⟩;simp (maxSteps:=2000000) -implicitDefEqProofs [-getElem?_pos,go_sem,eqV,ah,e1,e2,w1,w2,ak])
   exact piece hr _ rfl
  ·simp [aZ,wE,au]
 ·have hx:lW d = 0:=by unfold lW;rw [if_pos (by omega)]
  have hB:tN d = 1 + d:=by unfold tN;rw [if_pos (by omega)]
  refine ⟨E,oa,s,0,h,?_,Kpt.refl _ _ _,_,rfl,[(0,.ptr 0 0 0 0),(7,.int .i64 n),(8,.int .i64 (d:Nat)),(9,.int .i64 ((1 + d:Nat):Int)),(75,.bool false)],?_,?_⟩
  ·rw [hx];exact cO.ret hs fun _=>rfl
  ·have h4I:¬ (4:Int)≤((d:Nat):Int):=by omega
   apply Run.seq (fr':=[(0,.ptr 0 0 0 0),(7,.int .i64 n),(8,.int .i64 (d:Nat)),(9,.int .i64 ((1 + d:Nat):Int)),(75,.bool false)]) (H':=E)
   ·(refine ⟨0,?_⟩;simp (maxSteps:=2000000) -implicitDefEqProofs [-getElem?_pos,go_sem,eqV,ah,h4I])
   exact Run.cond (d:=false) rfl ⟨0,rfl⟩
  ·rw [hB];simp [aZ,wE,au]
theorem Xr {m n k:Nat} {E:AM.Heap} (h:IrV c b mo t E 0 oa s) (hs:fM b mo s) (hm:mo≤1000000) (hn:n≤1000000) (hk:1≤k) (hk2:s.e = 0→k≤s.o.length):∃ code,((Try.f66.body).bind (aI [1,1,1,1,1,1,1,1,1,1])) = some code ∧
  aj (Goes fun fr E'=>∃ s' oa',IrV c b mo t E' 0 oa' s'∧(∀ x,oa = some x→oa' = some x)∧cO b mo (rF (yP mo k) n) () s s' ()) X (evT X) 66 m code (vJ (n:Nat) (k:Nat) 0) E:=by
 refine ⟨_,rfl,?_⟩
 apply aj.block
 refine aj.kF (I:=fun q fr E'=>∃ oa' s' i,i≤n∧q = n - i∧fr = vJ (n:Nat) (k:Nat) i∧IrV c b mo t E' 0 oa' s'∧(∀ a,oa = some a→oa' = some a)∧fM b mo s'∧(s'.e = 0→k≤s'.o.length)∧Cnt b mo (rF (yP mo k) (n - i)) () s' (rF (yP mo k) n) () s (fun u=>u)) ?_ (k:=n) ⟨oa,s,0,by omega,by omega,rfl,h,fun _ h=>h,hs,hk2,fun _ _ h=>h⟩
 rintro q fr E' ⟨oa',s',i,hi,rfl,rfl,hV,hm',hs',hk',hC⟩
 have h6:=Zi (m:=m) (n:=n) (i:=i) (k:=(k:Nat)) hV
 by_cases hin:i < n∧s'.e = 0
 ·obtain ⟨E5,oa5,s5,v1,v2,v3,hr8⟩:=Zj (m:=m) (n:=n) (i:=i) (d:=true) hV hs' hin.2 hm hk (hk' hin.2)
  have hup:=(Qv k).up b mo s'.k s'.o
  refine aj.of (o:=⟨.normal,vJ (n:Nat) (k:Nat) (i + 1),E5⟩) ?_ (.inl ⟨rfl,n - (i + 1),by omega,oa5,s5,i + 1,by omega,rfl,rfl,v1,fun a ha=>v3.same a (hm' a ha),v2.1,?_,?_⟩)
  ·rw [show decide (i < n) = true by simp [hin.1],hin.2] at h6
   apply Run.seq (fr':=vJ (n:Nat) (k:Nat) i ++ [(114,.bool true)]) (H':=E')
   ·apply Run.seq (piece h6 _ rfl)
    refine ⟨0,?_⟩
    simp only [vJ]
    simp (maxSteps:=2000000) -implicitDefEqProofs [-getElem?_pos,go_sem,eqV,ah]
   apply Run.seq (fr':=vJ (n:Nat) (k:Nat) i) (H':=E5)
   ·apply Run.block
    ·exact piece hr8 _ rfl
    ·simp
   ·have w:IntKind.i64.wrap ((i:Int) + 1) = ((i + 1:Nat):Int):=by rw [wrap_i64 (by omega) (by omega)];omega
    simp only [vJ]
    (refine ⟨0,?_⟩;simp (maxSteps:=2000000) -implicitDefEqProofs [-getElem?_pos,go_sem,eqV,ah,w,ak])
  ·intro he5
   obtain ⟨_,hok⟩:=v2.fine he5
   obtain ⟨_,_,⟨x,hx⟩,_⟩:=hup _ _ _ hok hs'.1
   rw [hx,List.length_append]
   have:=hk' hin.2
   omega
  ·have:n - i = (n - (i + 1)) + 1:=by omega
   rw [this] at hC
   exact Cnt.step (m:=yP mo k) (k:=fun _=>rF (yP mo k) (n - (i + 1))) hC v2
 ·refine aj.of (o:=⟨.exit 0,vJ (n:Nat) (k:Nat) i ++ [(114,.bool false)],E'⟩) ?_ (.inr ⟨by simp,rfl,s',oa',hV,hm',?_⟩)
  ·have hd:(decide (i < n) && (s'.e == 0)) = false:=by
    by_cases h1:i < n
    ·have:¬ s'.e = 0:=fun h=>hin ⟨h1,h⟩
     simp [this]
    ·simp [h1]
   rw [hd] at h6
   apply Run.bH
   ·apply Run.seq (piece h6 _ rfl)
    refine ⟨0,?_⟩
    simp only [vJ]
    simp (maxSteps:=2000000) -implicitDefEqProofs [-getElem?_pos,go_sem,eqV,ah]
   ·simp
  ·refine hC _ () ?_
   by_cases h1:s'.e = 0
   ·have:n - i = 0:=by
     have:¬ i < n:=fun h=>hin ⟨h,h1⟩
     omega
    rw [this]
    exact cO.ret hs' fun _=>rfl
   ·exact cO.stop hs' h1
theorem LG {m cd sy:Nat} {dl:List Int} {E:AM.Heap} (h:IrV c b mo t E 0 oa s) (hs:fM b mo s) (hb:b.length≤100000) (hm:mo≤1000000) (LD:257≤sy) (hsy:sy≤100000) (hl:dl.length < 9223372036854775808):∃ code,Try.f66.body = some code ∧
  aj (kE fun fr E'=>∃ s' oa',IrV c b mo t E' 0 oa' s'∧(∀ x,oa = some x→oa' = some x)∧cO b mo (DI b mo dl sy) () s s' ()) X (evT X) 66 m code [(0,.ptr 0 0 0 0),(1,.int .i64 (sy:Nat)),(2,.ro cd (.pi .i64 dl) 3)] E:=by
 refine ⟨_,rfl,?_⟩
 apply aj.seq (piece abb _ rfl)
 have hV0:IrV c b mo t (E ++ [some Lu]) 0 oa s:=h.cat
 have hj:(E ++ [some Lu])[E.length]? = some (some Lu):=by simp
 have hj0:E.length ≠ 0:=by have:=h.lt.1;omega
 have hja:∀ a,oa = some a→E.length ≠ a:=fun a ha=>by have:=h.lt.2 a ha;omega
 have w1:IntKind.i64.wrap ((sy:Int) - 257) = ((sy - 257:Nat):Int):=by rw [wrap_i64 (by omega) (by omega)];omega
 generalize hEj:E ++ [some Lu] = E0 at *
 generalize E.length = j at *
 by_cases U7:286≤sy
 ·have hI:(29:Int)≤((sy - 257:Nat):Int):=by omega
  obtain ⟨E1,oa1,k1,k2,k3⟩:=qQ (e:=5) hV0
  refine ⟨⟨.ret,[],E1⟩,⟨.inr rfl,_,oa1,k2,k3.same,?_⟩,?_⟩
  ·unfold DI;rw [if_pos U7];exact cO.bad hs (by simp)
  ·generalize sy - 257 = q at *
   (refine ⟨0,?_⟩;simp (maxSteps:=2000000) -implicitDefEqProofs [-getElem?_pos,go_sem,eqV,ah,w1,hI,k1])
 have YW:sy < 286:=by omega
 have hC:Cnt b mo (dD (fO b (DF sy)) fun x=>dD (uK b dl) fun d=>if 30≤d then nU 5 else dD (fO b (lW d)) fun y=>OC mo (tN d + y.toNat) (BK sy + x).toNat) () s (DI b mo dl sy) () s (fun u=>u):=by
  intro s2 y hy
  unfold DI;rw [if_neg U7];exact hy
 apply aj.seq (fr':=[(0,.ptr 0 0 0 0),(1,.int .i64 (sy:Nat)),(2,.ro cd (.pi .i64 dl) 3),(6,.ptr j 0 0 0),(44,.bool false)]) (H':=E0)
 ·have hI:¬ (29:Int)≤((sy - 257:Nat):Int):=by omega
  generalize sy - 257 = q at *
  (refine ⟨0,?_⟩;simp (maxSteps:=2000000) -implicitDefEqProofs [-getElem?_pos,go_sem,eqV,ah,w1,hI])
 obtain ⟨E1,oa1,s1,x,v1,r1,k1,hr1⟩:=abd (m:=m) (cd:=cd) (dl:=dl) (d:=false) hV0 hs hb LD YW hj hj0 hja
 have hC1:=hC.step r1
 obtain ⟨hb3,hb4,hb5⟩:=Qs LD YW
 obtain ⟨xa,xb⟩:=iw r1 hs
 have hp:2 ^ DF sy≤2 ^ 5:=Nat.pow_le_pow_right (by omega) hb5
 obtain ⟨n,hn⟩:∃ n:Nat,BK sy + x = (n:Int):=⟨(BK sy + x).toNat,by omega⟩
 rw [hn] at hr1
 simp only [hn,Int.toNat_natCast] at hC1
 apply aj.seq (piece hr1 _ rfl)
 obtain ⟨E2,oa2,s2,d,h2,v2,r2,k2⟩:=BG (a:=.ro cd (.pi .i64 dl) 3) (l:=dl) v1 r1.1 hb rfl (fun x hx=>by cases hx) hl
 have hC2:=hC1.step r2
 apply aj.seq (fr':=zU (n:Nat) d) (H':=E2)
 ·simp only [zU]
  (refine ⟨0,?_⟩;simp (maxSteps:=2000000) -implicitDefEqProofs [-getElem?_pos,go_sem,eqV,ah,h2,ak])
 apply aj.assoc
 apply aj.seq (piece (abe (m:=m) v2) _ rfl)
 have hsm:∀ a,oa = some a→oa2 = some a:=fun a ha=>k2.same a (k1.same a ha)
 by_cases he2:¬ s2.e = 0
 ·have heb:(s2.e != 0) = true:=by simpa using he2
  refine ⟨⟨.ret,zU (n:Nat) d ++ [(67,.bool true)],E2⟩,⟨.inr rfl,s2,oa2,v2,hsm,hC2 _ () (cO.stop r2.1 he2)⟩,?_⟩
  rw [heb]
  refine ⟨0,?_⟩
  simp only [zU]
  simp (maxSteps:=2000000) -implicitDefEqProofs [-getElem?_pos,go_sem,eqV,ah]
 have he2:s2.e = 0:=Classical.not_not.1 he2
 apply aj.seq (fr':=zU (n:Nat) d ++ [(67,.bool false)]) (H':=E2)
 ·rw [he2]
  refine ⟨0,?_⟩
  simp only [zU]
  simp (maxSteps:=2000000) -implicitDefEqProofs [-getElem?_pos,go_sem,eqV,ah]
 by_cases h30:30≤d
 ·have hI:(30:Int)≤((d:Nat):Int):=by omega
  obtain ⟨E3,oa3,g1,g2,g3⟩:=qQ (e:=5) v2
  rw [if_pos h30] at hC2
  refine ⟨⟨.ret,[],E3⟩,⟨.inr rfl,_,oa3,g2,fun a ha=>g3.same a (hsm a ha),hC2 _ () (cO.bad r2.1 (by simp))⟩,?_⟩
  simp only [zU]
  (refine ⟨0,?_⟩;simp (maxSteps:=2000000) -implicitDefEqProofs [-getElem?_pos,go_sem,eqV,ah,hI,g1])
 have abf:d < 30:=by omega
 rw [if_neg h30] at hC2
 apply aj.seq (fr':=zU (n:Nat) d ++ [(69,.bool false)]) (H':=E2)
 ·have hI:¬ (30:Int)≤((d:Nat):Int):=by omega
  simp only [zU]
  (refine ⟨0,?_⟩;simp (maxSteps:=2000000) -implicitDefEqProofs [-getElem?_pos,go_sem,eqV,ah,hI])
 apply aj.seq (fr':=[(0,.ptr 0 0 0 0),(7,.int .i64 (n:Nat)),(8,.int .i64 (d:Nat)),(9,.int .i64 ((1 + d:Nat):Int))]) (H':=E2)
 ·have w:IntKind.i64.wrap (1 + (d:Int)) = ((1 + d:Nat):Int):=by rw [wrap_i64 (by omega) (by omega)];omega
  simp only [zU]
  generalize 1 + d = q at *
  (refine ⟨0,?_⟩;simp (maxSteps:=2000000) -implicitDefEqProofs [-getElem?_pos,go_sem,eqV,ah,w,ak])
 obtain ⟨E3,oa3,s3,y,v3,r3,k3,aa7,hcode3,fr3,hr3,hf3⟩:=Xq (m:=m) (n:=(n:Nat)) v2 r2.1 hb abf
 have hC3:=hC2.step r3
 simp only [Int.toNat_natCast] at hC3
 apply aj.seq (fr':=fr3) (H':=E3)
 ·exact (Option.some.inj hcode3) ▸ hr3
 have Zk:∀ a,oa = some a→oa3 = some a:=fun a ha=>k3.same a (hsm a ha)
 have hk1:1≤tN d + y:=by have:=(Qu abf).1;omega
 generalize hk:tN d + y = k at *
 have g0:au fr3 0 = .ptr 0 0 0 0:=by
  have:=congrArg (fun f=>au f 0) hf3
  simpa [aZ,wE,au] using this
 have g7:au fr3 7 = .int .i64 (n:Nat):=by
  have:=congrArg (fun f=>au f 7) hf3
  simpa [aZ,wE,au] using this
 have g9:au fr3 9 = .int .i64 (k:Nat):=by
  have:=congrArg (fun f=>au f 9) hf3
  simpa [aZ,wE,au] using this
 apply aj.assoc
 apply aj.seq (piece (Zh (m:=m) g0 g7 g9 v3) _ rfl)
 -- may it be?
 have hP:∃ E4 oa4 s4,IrV c b mo t E4 0 oa4 s4∧(∀ x,oa = some x→oa4 = some x)∧Cnt b mo (rF (yP mo k) n) () s4 (DI b mo dl sy) () s (fun u=>u)∧fM b mo s4∧(s4.e = 0→k≤s4.o.length) ∧
   ∃ code,((Try.f66.body).bind (aI [1,1,1,1,1,1,1,1,0,1])) = some code∧∃ fr,Run X (evT X) 66 m code (wE (n:Nat) (k:Nat) ++ [(102,.bool (s3.e == 0 && decide (s3.o.length < k)))]) E3 ⟨.normal,fr,E4⟩∧au fr 0 = .ptr 0 0 0 0∧au fr 7 = .int .i64 (n:Nat)∧au fr 9 = .int .i64 (k:Nat):=by
  by_cases he3:s3.e = 0
  ·by_cases hlk:s3.o.length < k
   ·obtain ⟨E4,oa4,q1,q2,q3⟩:=qQ (e:=5) v3
    have hf:(gJ s3 5).e ≠ 0:=by unfold gJ;rw [if_pos he3];simp
    refine ⟨E4,oa4,_,q2,fun a ha=>q3.same a (Zk a ha),?_,zV r3.1,fun h=>absurd h hf,_,rfl,wE (n:Nat) (k:Nat),?_,rfl,rfl,rfl⟩
    ·intro s5 u hu
     obtain ⟨rfl,rfl⟩:=hu.stopped hf
     refine hC3 _ () ?_
     unfold gJ
     rw [if_pos he3]
     exact cO.Ey (e:=5) ⟨r3.1.1,r3.1.2⟩ he3 (by unfold OC;rw [if_pos hlk]) rfl (by simp)
    ·rw [he3,decide_eq_true hlk]
     refine Run.cond (d:=true) rfl ?_
     simp only [wE]
     (refine ⟨0,?_⟩;simp (maxSteps:=2000000) -implicitDefEqProofs [-getElem?_pos,go_sem,eqV,ah,q1])
   ·refine ⟨E3,oa3,s3,v3,Zk,?_,r3.1,fun _=>by omega,_,rfl,wE (n:Nat) (k:Nat) ++ [(102,.bool false)],?_,rfl,rfl,rfl⟩
    ·intro s5 u hu
     refine hC3 _ _ ⟨hu.1,?_⟩
     have h2:=hu.2
     rw [if_pos he3] at h2 ⊢
     unfold OC
     rw [if_neg hlk]
     exact h2
    ·rw [he3,decide_eq_false hlk]
     exact Run.cond (d:=false) rfl ⟨0,rfl⟩
  ·refine ⟨E3,oa3,s3,v3,Zk,?_,r3.1,fun h=>absurd h he3,_,rfl,wE (n:Nat) (k:Nat) ++ [(102,.bool false)],?_,rfl,rfl,rfl⟩
   ·intro s5 u hu
    obtain ⟨rfl,rfl⟩:=hu.stopped he3
    exact hC3 _ () (cO.stop r3.1 he3)
   ·rw [show (s3.e == 0) = false by simpa using he3,Bool.false_and]
    exact Run.cond (d:=false) rfl ⟨0,rfl⟩
 obtain ⟨E4,oa4,s4,v4,agh,hC4,hs4,hk4,akW,Zl,fr4,hr4,f0,f7,f9⟩:=hP
 apply aj.seq (fr':=fr4) (H':=E4)
 ·exact (Option.some.inj Zl) ▸ hr4
 apply aj.seq (fr':=vJ (n:Nat) (k:Nat) 0) (H':=E4)
 ·simp only [vJ]
  (refine ⟨0,?_⟩;simp (maxSteps:=2000000) -implicitDefEqProofs [-getElem?_pos,go_sem,eqV,ah,f0,f7,f9,ak])
 have hL:=Xr (m:=m) (n:=n) (k:=k) v4 hs4 hm (by omega) hk1 hk4
 refine (piece hL _ rfl).mono ?_
 rintro out ⟨ho1,s5,oa5,p1,p2,p3⟩
 exact ⟨.inl ho1,s5,oa5,p1,fun a ha=>p2 a (agh a ha),hC4 _ () p3⟩
theorem SI {sy:Nat} {dl:List Int} {a:AV} (h:IrV c b mo t H o oa s) (hs:fM b mo s) (hb:b.length≤100000) (hm:mo≤1000000) (LD:257≤sy) (hsy:sy≤100000) (ha:dP H a = some (.pi .i64 dl)) (hd:∀ x ∈ slO a,x ≠ o∧∀ y,oa = some y→x ≠ y) (hl:dl.length < 9223372036854775808) :
  ∃ H' oa' s',evT X 66 [.ptr o 0 0 0,.int .i64 (sy:Nat),a] H = some (.tup [],H')∧IrV c b mo t H' o oa' s'∧cO b mo (DI b mo dl sy) () s s' ()∧Kpt H H' o oa oa':=by
 obtain ⟨code,hc⟩:∃ code,Try.f66.body = some code:=⟨_,rfl⟩
 obtain ⟨H',oa',s',a,h1,h2,h3,h4⟩:=BF (f:=66) (n:=4) (xs:=[.int .i64 (sy:Nat),a]) (ys:=[.int .i64 (sy:Nat),.ro (rC H a) (.pi .i64 dl) 3]) (m:=DI b mo dl sy) (d:=()) (v:=fun _=>[]) Try.func66 hc rfl h (fun π K hπ=>fK.flat rfl rfl (fK.UR rfl ha rfl (by
  rw [hπ]
  refine iF.2 ?_
  intro x hx hx2
  obtain ⟨h1,h2⟩:=hd x hx
  rcases List.mem_cons.1 hx2 with h3 | h3
  ·exact h1 h3
  ·exact h2 x (by simpa using h3) rfl) fK.nil)) rfl rfl (by simp [dG]) (fun _=>⟨rfl,rfl,rfl⟩) (by
  intro mm E oa1 hE
  obtain ⟨code,hc,ht⟩:=LG (m:=mm) (cd:=rC H a) hE hs hb hm LD hsy hl
  refine ⟨code,hc,?_⟩
  rw [abg]
  refine ht.mono fun o ho=>⟨ho.1,?_⟩
  obtain ⟨s',oa',q1,q2,q3⟩:=ho.2
  exact ⟨s',oa',(),rfl,q1,q2,q3⟩)
 exact ⟨H',oa',s',h1,h2,h3,h4⟩
end
end Go.Proofs.Ytcllinmgllmpmaa
namespace Go.Proofs.Ytcllinmgllmpmaa
open Go.AM
theorem LH (i x:Int):∀ (l cs:List Int) (j0 j:Nat),jF i x l cs j0 = some j→j < j0 + l.length
 | [],_,_,_,h=>by simp [jF] at h
 | _ :: _,[],_,_,h=>by simp [jF] at h
 | y :: l,z :: cs,j0,j,h=>by
  unfold jF at h
  split at h
  ·have:=Option.some.inj h
   simp;omega
  ·have:=LH i x l cs (j0 + 1) j h
   simp;omega
theorem U9 {b:List UInt8} {l codes:List Int}:∀ {f i:Nat} {x:Int} {k k1 j:Nat} {o o1:List UInt8},decP b l codes f i x k o = .ok j k1 o1→k < k1∧o1 = o∧j < l.length
 | 0,_,_,_,_,_,_,_,h=>by cases h
 | f + 1,i,x,k,k1,j,o,o1,h=>by
  unfold decP at h
  obtain ⟨y,k2,o2,h1,h2⟩:=jh h
  unfold wz at h1
  split at h1
  ·obtain ⟨rfl,rfl,rfl⟩:=iO h1
   cases hf:jF i (2 * x + iU b k) l codes 0 with
   | some j2 =>
    rw [hf] at h2
    obtain ⟨rfl,rfl,rfl⟩:=iO h2
    have:=LH _ _ _ _ _ _ hf
    exact ⟨by omega,rfl,by omega⟩
   | none =>
    rw [hf] at h2
    obtain ⟨e1,e2,e3⟩:=U9 h2
    exact ⟨by omega,e2,e3⟩
  ·cases h1
theorem Va {b:List UInt8} {l:List Int} {k k1 j:Nat} {o o1:List UInt8} (h:uK b l k o = .ok j k1 o1):k < k1∧o1 = o∧j < l.length∧(bC l).2 = 0:=by
 unfold uK at h
 split at h
 ·rename_i he
  obtain ⟨e1,e2,e3⟩:=U9 h
  exact ⟨e1,e2,e3,he⟩
 ·cases h
section
variable {c:Nat} {b:List UInt8} {mo:Int} {t:Nat} {H:AM.Heap} {o:Nat} {oa:Option Nat} {s:Is}
def lX (cl cd:Nat) (ll dl:List Int):AM.Frame:=[(0,.ptr 0 0 0 0),(1,.ro cl (.pi .i64 ll) 2),(2,.ro cd (.pi .i64 dl) 3)]
theorem abh {m cl cd:Nat} {ll dl:List Int} {E:AM.Heap} (h:IrV c b mo t E 0 oa s):∃ code,((Try.f36.body).bind (aI [0,0,0,0])) = some code∧Run X (evT X) 36 m code (lX cl cd ll dl) E ⟨.normal,lX cl cd ll dl ++ [(11,.bool (s.e == 0))],E⟩:=by
 refine ⟨_,rfl,?_⟩
 obtain ⟨⟨vo,τ1,τ,a1,a2,h0,ho⟩,hne⟩:=id h
 simp only [bJ] at h0
 by_cases he:s.e = 0
 ·rw [he] at h0 ⊢
  simp only [lX]
  (refine ⟨0,?_⟩;simp (maxSteps:=2000000) -implicitDefEqProofs [-getElem?_pos,go_sem,eqV,ah,h0])
 ·have heb:(s.e == 0) = false:=by simpa using he
  simp only [lX]
  (refine ⟨0,?_⟩;simp (maxSteps:=2000000) -implicitDefEqProofs [-getElem?_pos,go_sem,eqV,ah,h0,he,heb])
theorem abj {m cl cd j:Nat} {ll dl:List Int} {E:AM.Heap} (h:IrV c b mo t E 0 oa s):∃ code,((Try.f36.body).bind (aI [0,0,1,0,1,0,0])) = some code∧Run X (evT X) 36 m code (lX cl cd ll dl ++ [(6,.int .i64 (j:Nat))]) E ⟨.normal,lX cl cd ll dl ++ [(6,.int .i64 (j:Nat)),(19,.bool (s.e != 0 || j == 256))],E⟩:=by
 refine ⟨_,rfl,?_⟩
 obtain ⟨⟨vo,τ1,τ,a1,a2,h0,ho⟩,hne⟩:=id h
 simp only [bJ] at h0
 by_cases he:s.e = 0
 ·rw [he] at h0 ⊢
  by_cases hj:j = 256
  ·subst hj
   simp only [lX]
   (refine ⟨0,?_⟩;simp (maxSteps:=2000000) -implicitDefEqProofs [-getElem?_pos,go_sem,eqV,ah,h0])
  ·have h1:(j == 256) = false:=by simpa using hj
   have h2:((j:Int) == 256) = false:=by simp;omega
   have h3:¬ ((j:Int) = 256):=by omega
   rw [h1]
   simp only [lX]
   (refine ⟨0,?_⟩;simp (maxSteps:=2000000) -implicitDefEqProofs [-getElem?_pos,go_sem,eqV,ah,h0,h2,h3])
 ·have heb:(s.e != 0) = true:=by simpa using he
  rw [heb]
  simp only [lX]
  (refine ⟨0,?_⟩;simp (maxSteps:=2000000) -implicitDefEqProofs [-getElem?_pos,go_sem,eqV,ah,h0,he,heb])
theorem OD {m cl cd F:Nat} {ll dl:List Int} {E:AM.Heap} (h:IrV c b mo t E 0 oa s) (hs:fM b mo s) (hb:b.length≤100000) (hm:mo≤1000000) (hF:8 * b.length < F) (hl:ll.length < 9223372036854775808) (hl2:dl.length < 9223372036854775808):∃ code,Try.f36.body = some code ∧
  aj (kE fun fr E'=>∃ s' oa',IrV c b mo t E' 0 oa' s'∧(∀ x,oa = some x→oa' = some x)∧cO b mo (rG b mo ll dl F) () s s' ()) X (evT X) 36 m code (lX cl cd ll dl) E:=by
 refine ⟨_,rfl,?_⟩
 refine aj.mono (Q:=Or2 (fun fr E'=>∃ s' oa',IrV c b mo t E' 0 oa' s'∧(∀ x,oa = some x→oa' = some x)∧cO b mo (rG b mo ll dl F) () s s' ()) (fun o=>o.ex = .ret∧∃ s' oa',IrV c b mo t o.H 0 oa' s'∧(∀ x,oa = some x→oa' = some x)∧cO b mo (rG b mo ll dl F) () s s' ())) ?_ (by
  rintro out (⟨h1,h2⟩ | ⟨_,h1,h2⟩)
  ·exact ⟨.inl h1,h2⟩
  ·exact ⟨.inr h1,h2⟩)
 apply aj.Jl
 refine aj.kF (I:=fun q fr E'=>∃ oa' s',q = (if s'.e = 0 then 8 * b.length - s'.k + 1 else 0)∧fr = lX cl cd ll dl∧IrV c b mo t E' 0 oa' s'∧(∀ a,oa = some a→oa' = some a)∧fM b mo s'∧∃ f,(s'.e = 0→8 * b.length < f + s'.k)∧Cnt b mo (rG b mo ll dl f) () s' (rG b mo ll dl F) () s (fun u=>u)) ?_ (k:=if s.e = 0 then 8 * b.length - s.k + 1 else 0) ⟨oa,s,rfl,rfl,h,fun _ h=>h,hs,F,fun _=>by omega,fun _ _ h=>h⟩
 rintro q fr E' ⟨oa',s',rfl,rfl,hV,hm',hs',f,hf,hC⟩
 have h0:=abh (m:=m) (cl:=cl) (cd:=cd) (ll:=ll) (dl:=dl) hV
 by_cases he:¬ s'.e = 0
 ·refine aj.of (o:=⟨.exit 0,lX cl cd ll dl ++ [(11,.bool false)],E'⟩) ?_ (.inr ⟨by simp,.inl ⟨rfl,s',oa',hV,hm',hC _ () (cO.stop hs' he)⟩⟩)
  rw [show (s'.e == 0) = false by simpa using he] at h0
  apply Run.bH
  ·apply Run.seq (piece h0 _ rfl)
   refine ⟨0,?_⟩
   simp only [lX]
   simp (maxSteps:=2000000) -implicitDefEqProofs [-getElem?_pos,go_sem,eqV,ah]
  ·simp
 have he:s'.e = 0:=Classical.not_not.1 he
 rw [he] at h0
 obtain ⟨f,rfl⟩:∃ f',f = f' + 1:=⟨f - 1,by have:=hs'.1;have:=hf he;omega⟩
 apply aj.seq (fr':=lX cl cd ll dl ++ [(11,.bool true)]) (H':=E')
 ·apply Run.seq (piece h0 _ rfl)
  refine ⟨0,?_⟩
  simp only [lX]
  simp (maxSteps:=2000000) -implicitDefEqProofs [-getElem?_pos,go_sem,eqV,ah]
 obtain ⟨E2,oa2,s2,j,h2,v2,r2,k2⟩:=BG (a:=.ro cl (.pi .i64 ll) 2) (l:=ll) hV hs' hb rfl (fun x hx=>by cases hx) hl
 have hC2:=hC.step r2
 have hsm:∀ a,oa = some a→oa2 = some a:=fun a ha=>k2.same a (hm' a ha)
 have h3:=abj (m:=m) (cl:=cl) (cd:=cd) (j:=j) (ll:=ll) (dl:=dl) v2
 by_cases hret:¬ s2.e = 0∨j = 256
 ·-- it is over
  refine aj.of (o:=⟨.ret,lX cl cd ll dl ++ [(6,.int .i64 (j:Nat)),(19,.bool true)],E2⟩) ?_ (.inr ⟨by simp,.inr ⟨rfl,rfl,s2,oa2,v2,hsm,?_⟩⟩)
  ·rw [show (s2.e != 0 || j == 256) = true by
    rcases hret with h | h
    ·rw [show (s2.e != 0) = true by simpa using h];rfl
    ·rw [h];simp] at h3
   apply Run.block
   ·apply Run.seq (fr':=lX cl cd ll dl ++ [(6,.int .i64 (j:Nat))]) (H':=E2)
    ·simp only [lX]
     (refine ⟨0,?_⟩;simp (maxSteps:=2000000) -implicitDefEqProofs [-getElem?_pos,go_sem,eqV,ah,h2,ak])
    apply Run.block
    ·apply Run.seq (piece h3 _ rfl)
     refine ⟨0,?_⟩
     simp only [lX]
     simp (maxSteps:=2000000) -implicitDefEqProofs [-getElem?_pos,go_sem,eqV,ah]
    ·simp
   ·simp
  ·refine hC2 _ () ?_
   by_cases h4:s2.e = 0
   ·have hj:j = 256:=by
     rcases hret with h | h
     ·exact absurd h4 h
     ·exact h
    rw [if_pos hj]
    exact cO.ret r2.1 fun _=>rfl
   ·exact cO.stop r2.1 h4
 have he2:s2.e = 0:=Classical.not_not.1 fun h=>hret (.inl h)
 have hj:¬ j = 256:=fun h=>hret (.inr h)
 rw [if_neg hj] at hC2
 obtain ⟨_,hok⟩:=r2.fine he2
 obtain ⟨hk1,_,hjl,hrc⟩:=Va hok
 have akX:j < 320:=by have:=(o9 hrc).1;omega
 rw [he2,show (j == 256) = false by simpa using hj] at h3
 have htail:∀ (E3:AM.Heap) (fr3:AM.Frame),(∃ code,((Try.f36.body).bind (aI [0,0,1,0,1,0,1,1])) = some code∧Run X (evT X) 36 m code (lX cl cd ll dl ++ [(6,.int .i64 (j:Nat)),(19,.bool false)]) E2 ⟨.normal,lX cl cd ll dl,E3⟩)→∃ code,((Try.f36.body).bind (aI [0,0,1])) = some code∧Run X (evT X) 36 m code (lX cl cd ll dl ++ [(11,.bool true)]) E' ⟨.normal,lX cl cd ll dl,E3⟩:=by
  intro E3 fr3 hh
  refine ⟨_,rfl,?_⟩
  apply Run.block
  ·apply Run.seq (fr':=lX cl cd ll dl ++ [(6,.int .i64 (j:Nat))]) (H':=E2)
   ·simp only [lX]
    (refine ⟨0,?_⟩;simp (maxSteps:=2000000) -implicitDefEqProofs [-getElem?_pos,go_sem,eqV,ah,h2,ak])
   apply Run.block
   ·apply Run.seq (piece h3 _ rfl)
    refine Run.cond (d:=false) (by simp [lX,aF,au]) ?_
    exact piece hh _ rfl
   ·simp
  ·simp
 by_cases h256:j < 256
 ·rw [if_pos h256] at hC2
  obtain ⟨E3,oa3,s3,g1,g2,g3,g4⟩:=Jh (y:=UInt8.ofNat j) v2 r2.1 hm
  have hC3:=hC2.step g3
  have hup:=(DW (UInt8.ofNat j)).up b mo s2.k s2.o
  refine aj.of (o:=⟨.normal,lX cl cd ll dl,E3⟩) ?_ (.inl ⟨rfl,_,?_,oa3,s3,rfl,rfl,g2,fun a ha=>g4.same a (hsm a ha),g3.1,f,?_,hC3⟩)
  ·refine piece (htail E3 [] ⟨_,rfl,?_⟩) _ rfl
   have hy:(((UInt8.ofNat j).toNat:Nat):Int) = (j:Int):=by
    rw [UInt8.toNat_ofNat',Nat.mod_eq_of_lt (by omega)]
   rw [hy] at g1
   have hI:(j:Int) < 256:=by omega
   have w:IntKind.u8.wrap (j:Int) = (j:Int):=wrap_u8 (by omega) (by omega)
   simp only [lX]
   (refine ⟨0,?_⟩;simp (maxSteps:=2000000) -implicitDefEqProofs [-getElem?_pos,go_sem,eqV,ah,hI,w,g1,ak])
  ·rw [if_pos he]
   split
   ·rename_i he3
    obtain ⟨_,OE⟩:=g3.fine he3
    have:=(hup _ _ _ OE r2.1.1).1
    have:=g3.1.1
    omega
   ·omega
  ·intro he3
   obtain ⟨_,OE⟩:=g3.fine he3
   have:=(hup _ _ _ OE r2.1.1).1
   have:=hf he
   omega
 ·rw [if_neg h256] at hC2
  obtain ⟨E3,oa3,s3,g1,g2,g3,g4⟩:=SI (sy:=j) (a:=.ro cd (.pi .i64 dl) 3) (dl:=dl) v2 r2.1 hb hm (by omega) (by omega) rfl (fun x hx=>by cases hx) hl2
  have hC3:=hC2.step g3
  have hup:=(Qw dl j).up b mo s2.k s2.o
  refine aj.of (o:=⟨.normal,lX cl cd ll dl,E3⟩) ?_ (.inl ⟨rfl,_,?_,oa3,s3,rfl,rfl,g2,fun a ha=>g4.same a (hsm a ha),g3.1,f,?_,hC3⟩)
  ·refine piece (htail E3 [] ⟨_,rfl,?_⟩) _ rfl
   have hI:¬ (j:Int) < 256:=by omega
   simp only [lX]
   (refine ⟨0,?_⟩;simp (maxSteps:=2000000) -implicitDefEqProofs [-getElem?_pos,go_sem,eqV,ah,hI,g1,ak])
  ·rw [if_pos he]
   split
   ·rename_i he3
    obtain ⟨_,OE⟩:=g3.fine he3
    have:=(hup _ _ _ OE r2.1.1).1
    have:=g3.1.1
    omega
   ·omega
  ·intro he3
   obtain ⟨_,OE⟩:=g3.fine he3
   have:=(hup _ _ _ OE r2.1.1).1
   have:=hf he
   omega
theorem LJ {F:Nat} {ll dl:List Int} {a a2:AV} (h:IrV c b mo t H o oa s) (hs:fM b mo s) (hb:b.length≤100000) (hm:mo≤1000000) (hF:8 * b.length < F) (ha:dP H a = some (.pi .i64 ll)) (hd:∀ x ∈ slO a,x ≠ o∧∀ y,oa = some y→x ≠ y) (ha2:dP H a2 = some (.pi .i64 dl)) (hd2:∀ x ∈ slO a2,x ≠ o∧∀ y,oa = some y→x ≠ y)
  (hl:ll.length < 9223372036854775808) (hl2:dl.length < 9223372036854775808) :
  ∃ H' oa' s',evT X 36 [.ptr o 0 0 0,a,a2] H = some (.tup [],H')∧IrV c b mo t H' o oa' s'∧cO b mo (rG b mo ll dl F) () s s' ()∧Kpt H H' o oa oa':=by
 obtain ⟨code,hc⟩:∃ code,Try.f36.body = some code:=⟨_,rfl⟩
 have hdis:∀ x,(∀ y ∈ slO x,y ≠ o∧∀ z,oa = some z→y ≠ z)→disjoint (slO x) (o :: oa.toList) = true:=by
  intro x hx
  refine iF.2 ?_
  intro y hy hy2
  obtain ⟨h1,h2⟩:=hx y hy
  rcases List.mem_cons.1 hy2 with h3 | h3
  ·exact h1 h3
  ·exact h2 y (by simpa using h3) rfl
 obtain ⟨H',oa',s',_,h1,h2,h3,h4⟩:=BF (f:=36) (n:=4) (xs:=[a,a2]) (ys:=[.ro (rC H a) (.pi .i64 ll) 2,.ro (rC H a2) (.pi .i64 dl) 3]) (m:=rG b mo ll dl F) (d:=()) (v:=fun _=>[]) Try.func36 hc rfl h (fun π K hπ=>fK.UR rfl ha rfl (by rw [hπ];exact hdis a hd) (fK.UR rfl ha2 rfl (by rw [hπ];exact hdis a2 hd2) fK.nil)) rfl rfl (by simp [dG]) (fun _=>⟨rfl,rfl,rfl⟩) (by
  intro mm E oa1 hE
  obtain ⟨code,hc,ht⟩:=OD (m:=mm) (cl:=rC H a) (cd:=rC H a2) hE hs hb hm hF hl hl2
  refine ⟨code,hc,?_⟩
  rw [abk]
  refine ht.mono fun o ho=>⟨ho.1,?_⟩
  obtain ⟨s',oa',q1,q2,q3⟩:=ho.2
  exact ⟨s',oa',(),rfl,q1,q2,q3⟩)
 exact ⟨H',oa',s',h1,h2,h3,h4⟩
end
end Go.Proofs.Ytcllinmgllmpmaa
namespace Go.Proofs.Ytcllinmgllmpmaa
open Go.AM
def gB (b:List UInt8) (mo:Int) {α:Type} (m:PM α) (s s':Is) (a:α):Prop :=
 fM b mo s'∧if s.e = 0 then (match m s.k s.o with
  | .ok x k o=>s' = ⟨k,o,0⟩∧a = x
  | .err e=>s'.e = e∧e ≠ 0) else s' = s
section
variable {b:List UInt8} {mo:Int} {α β γ:Type} {s s1 s2:Is}
theorem cO.toE {m:PM α} {d x:α} (h:cO b mo m d s s1 x):gB b mo m s s1 x:=by
 refine ⟨h.1,?_⟩
 have h1:=h.2
 by_cases he:s.e = 0
 ·rw [if_pos he] at h1 ⊢
  cases hm:m s.k s.o with
  | ok a k o=>rw [hm] at h1;exact h1
  | err e=>rw [hm] at h1;exact ⟨h1.1,h1.2.1⟩
 ·rw [if_neg he] at h1 ⊢
  exact h1.1
theorem gB.bnd {m:PM α} {f:α→PM β} {x:α} {y:β} (h:gB b mo m s s1 x) (h2:gB b mo (f x) s1 s2 y):gB b mo (dD m f) s s2 y:=by
 refine ⟨h2.1,?_⟩
 have h1:=h.2
 have h3:=h2.2
 by_cases he:s.e = 0
 ·rw [if_pos he] at h1 ⊢
  unfold dD
  cases hm:m s.k s.o with
  | ok a k o =>
   rw [hm] at h1
   obtain ⟨rfl,rfl⟩:=h1
   simpa using h3
  | err e =>
   rw [hm] at h1
   obtain ⟨h4,h5⟩:=h1
   rw [if_neg (by rw [h4];exact h5)] at h3
   rw [h3]
   exact ⟨h4,h5⟩
 ·rw [if_neg he] at h1 ⊢
  rw [h1] at h3
  rw [if_neg he] at h3
  exact h3
theorem gB.stop {m:PM α} {x:α} (hs:fM b mo s) (he:s.e ≠ 0):gB b mo m s s x:=⟨hs,by rw [if_neg he]⟩
theorem gB.fine {m:PM α} {x:α} (h:gB b mo m s s1 x) (he:s1.e = 0):s.e = 0∧m s.k s.o = .ok x s1.k s1.o:=by
 have h1:=h.2
 by_cases h0:s.e = 0
 ·rw [if_pos h0] at h1
  cases hm:m s.k s.o with
  | ok a k o =>
   rw [hm] at h1
   obtain ⟨rfl,rfl⟩:=h1
   exact ⟨h0,rfl⟩
  | err e =>
   rw [hm] at h1
   exact absurd (h1.1.symm.trans he) h1.2
 ·rw [if_neg h0] at h1
  exact absurd (h1 ▸ he) h0
theorem gB.any {m:PM α} {x y:α} (h:gB b mo m s s1 x) (he:s1.e ≠ 0):gB b mo m s s1 y:=by
 refine ⟨h.1,?_⟩
 have h1:=h.2
 by_cases h0:s.e = 0
 ·rw [if_pos h0] at h1 ⊢
  cases hm:m s.k s.o with
  | ok a k o =>
   rw [hm] at h1
   obtain ⟨rfl,rfl⟩:=h1
   exact absurd rfl he
  | err e=>rw [hm] at h1;exact h1
 ·rw [if_neg h0] at h1 ⊢;exact h1
theorem EH (m:PM α) (f:α→PM β) (g:β→PM γ):dD (dD m f) g = dD m fun a=>dD (f a) g:=by
 funext k o
 unfold dD
 cases m k o <;> rfl
theorem Jm {N:Nat} {acc acc':List Int} {x:Int} {t:Nat} (hs:fM b mo s) (h:(acc',s1) = agR (N:Nat) acc x t s):gB b mo (vK N acc x t) s s1 acc':=by
 unfold agR at h
 unfold vK
 by_cases hc:N < acc.length + t
 ·rw [if_pos (by omega)] at h
  rw [if_pos hc]
  simp only [Prod.mk.injEq] at h
  obtain ⟨rfl,rfl⟩:=h
  exact (cO.bad (d:=acc') hs (by simp)).toE
 ·rw [if_neg (by omega)] at h
  rw [if_neg hc]
  simp only [Prod.mk.injEq] at h
  obtain ⟨rfl,rfl⟩:=h
  refine ⟨hs,?_⟩
  by_cases he:s1.e = 0
  ·rw [if_pos he];exact ⟨by rw [← he],rfl⟩
  ·rw [if_neg he]
theorem Jo {N:Nat} {acc acc':List Int} {x:Int} {t:Nat} (h:(acc',s1) = agR (N:Nat) acc x t s) (ha:acc.length≤N + 1):acc'.length≤N + 1:=by
 unfold agR at h
 split at h
 ·simp only [Prod.mk.injEq] at h
  rw [h.1];exact ha
 ·rename_i hc
  simp only [Prod.mk.injEq] at h
  rw [h.1,List.length_append,List.length_replicate];omega
end
section
variable {c:Nat} {b:List UInt8} {mo:Int} {N t:Nat} {H:AM.Heap} {lb nb rb:Nat} {la oa:Option Nat} {acc:List Int} {s:Is}
def dI (cl:Nat) (L:List Int) (rb nb lb:Nat):AM.Frame:=[(1,.ro cl (.pi .i64 L) 2),(3,.ptr rb 0 0 0),(5,.ptr nb 0 0 0),(7,.ptr lb 0 0 0),(8,.fn 86 [.ptr lb 0 0 0,.ptr nb 0 0 0,.ptr rb 0 0 0])]
theorem abl {m cl:Nat} {L:List Int} {E:AM.Heap} (h:AgV c b mo (N:Nat) t E lb nb rb 0 la oa acc s) (hs:fM b mo s) (hb:b.length≤100000) (he:s.e = 0) (hl:acc.length≤900) (hne:acc ≠ []):∃ E' la' oa' acc' s',AgV c b mo (N:Nat) t E' lb nb rb 0 la' oa' acc' s' ∧
  gB b mo (dD (fO b 2) fun u=>vK N acc (acc.getLastD 0) (3 + u.toNat)) s s' acc'∧(acc.length≤N + 1→acc'.length≤N + 1)∧(∀ a,la = some a→la' = some a)∧(∀ a,oa = some a→oa' = some a)∧E.length≤E'.length∧(la = none→∀ a,la' = some a→E.length≤a)∧(oa = none→∀ a,oa' = some a→E.length≤a)∧(∀ j,j < E.length→j ∉ [lb,nb,rb,0] ++ la.toList ++ oa.toList→E'[j]? = E[j]?)∧∃ fr,∃ code,((Try.f68.body).bind (aI [1,1,1,0,0,0,1,0,1,1,0,1,0,1])) = some code ∧
   Run X (evT X) 68 m code (dI cl L rb nb lb ++ [(37,.bool false)]) E ⟨.normal,fr,E'⟩∧aZ [1,3,5,7,8] fr = dI cl L rb nb lb:=by
 obtain ⟨E1,oa1,s1,u,h1,h2,h3,h4⟩:=iZ (n:=2) (I:=2) rfl h.d hs hb (by omega)
 obtain ⟨ua,ub⟩:=iw h3 hs
 obtain ⟨u,rfl⟩:∃ u':Nat,u = (u':Int):=⟨u.toNat,by omega⟩
 have hV1:=h.reader h2 h4
 have hub:u < 2 ^ 2:=by omega
 have w:IntKind.i64.wrap (3 + (u:Int)) = ((3 + u:Nat):Int):=by rw [wrap_i64 (by omega) (by omega)];omega
 obtain ⟨τ3,hτ3,hb3⟩:=h.r
 obtain ⟨τ4,hτ4,hb4⟩:=hV1.r
 obtain ⟨⟨vo,τ1,τr,a1,a2,h0,ho⟩,hne0⟩:=id hV1.d
 simp only [bJ,bxO] at h0 hb3 hb4
 by_cases he1:s1.e = 0
 ·have hx:∃ x:Int,x = acc.getLastD 0:=⟨_,rfl⟩
  obtain ⟨x,hxe⟩:=hx
  obtain ⟨E2,la2,wF,s2,g1,g2,g3,g4,g5,g6,g7⟩:=U3 (k:=3 + u) (x:=x) hV1 (by omega) (by omega)
  refine ⟨E2,la2,oa1,wF,s2,g2,?_,fun hh=>Jo g3 hh,g5,h4.same,Nat.le_trans h4.len g4,fun q1 a q2=>Nat.le_trans h4.len (g6 q1 a q2),fun q1 a q2=>h4.new a q1 q2,?_,dI cl L rb nb lb,_,rfl,?_,rfl⟩
  ·have:=h3.toE.bnd (f:=fun u=>vK N acc x (3 + u.toNat)) (y:=wF) (by rw [Int.toNat_natCast];exact Jm h3.1 g3)
   rw [← hxe];exact this
  ·intro j hj hjn
   rw [g7 j (Nat.lt_of_lt_of_le hj h4.len) ?_,h4.rest j hj (fun e=>hjn (by simp [e])) (fun a ha e=>hjn (by simp [ha,e]))]
   intro hm
   apply hjn
   simp only [List.mem_append] at hm ⊢
   rcases hm with hm | hm
   ·exact .inl hm
   ·cases ho1:oa with
    | some a=>rw [h4.same a ho1] at hm;exact .inr hm
    | none =>
     cases ho2:oa1 with
     | none=>rw [ho2] at hm;simp at hm
     | some a =>
      have:=h4.new a ho1 ho2
      rw [ho2] at hm;simp at hm;omega
  ·rw [he1] at h0
   obtain ⟨lv,τ5,hτ5,hb5,hL⟩:=hV1.l
   have hla:∃ a,la = some a:=by
    cases hq:la with
    | none=>rw [hq] at hL;exact absurd hL.1 hne
    | some a=>exact ⟨a,rfl⟩
   obtain ⟨a,rfl⟩:=hla
   obtain ⟨g,τ6,ob,hτ6,rfl,q3,q4⟩:=hL
   have hg:=q4.g;have hp:=q4.p;have hi:=q4.ids
   have hlast:acc[acc.length - 1]? = some x:=by
    rw [hxe,List.getLastD_eq_getLast?,List.getLast?_eq_getElem?,List.getElem?_eq_getElem (by have:=List.length_pos_iff.2 hne;omega)];rfl
   have hlen0:0 < acc.length:=List.length_pos_iff.2 hne
   have w2:IntKind.i64.wrap ((acc.length:Int) - 1) = ((acc.length - 1:Nat):Int):=by rw [wrap_i64 (by omega) (by omega)];omega
   have hI:((acc.length - 1:Nat):Int) < (acc.length:Int):=by omega
   have hN1:acc.length - 1 < acc.length:=by omega
   have hgen:0 + (acc.length - 1) = acc.length - 1:=by omega
   simp only [bxO] at hb5
   simp only [dI]
   generalize 3 + u = v at *
   generalize acc.length - 1 = q at *
   generalize hlen:acc.length = M at *
   (refine ⟨0,?_⟩;simp (maxSteps:=2000000) -implicitDefEqProofs [-getElem?_pos,go_sem,eqV,ah,h1,hb3,hb4,hb5,h0,w,g1,q3,hg,hp,hi,w2,hI,hN1,hgen,hlast,ak])
 ·refine ⟨E1,la,oa1,acc,s1,hV1,?_,fun hh=>hh,fun a ha=>ha,h4.same,h4.len,fun q1 a q2=>(by rw [q1] at q2;cases q2),fun q1 a q2=>h4.new a q1 q2,fun j hj hjn=>h4.rest j hj (fun e=>hjn (by simp [e])) (fun a ha e=>hjn (by simp [ha,e])),dI cl L rb nb lb ++ [(10,.int .i64 ((3 + u:Nat):Int)),(47,.bool false)],_,rfl,?_,?_⟩
  ·exact h3.toE.bnd (f:=fun u=>vK N acc (acc.getLastD 0) (3 + u.toNat)) (gB.stop h3.1 he1)
  ·have heb:(s1.e == 0) = false:=by simpa using he1
   simp only [dI]
   (refine ⟨0,?_⟩;simp (maxSteps:=2000000) -implicitDefEqProofs [-getElem?_pos,go_sem,eqV,ah,h1,hb3,hb4,h0,w,he1,heb,ak])
  ·simp [aZ,dI,au]
theorem abm {m cl:Nat} {L:List Int} {E:AM.Heap} (h:AgV c b mo (N:Nat) t E lb nb rb 0 la oa acc s) (hs:fM b mo s) (hb:b.length≤100000) (he:s.e = 0) (hl:acc.length≤900):∃ E' la' oa' acc' s',AgV c b mo (N:Nat) t E' lb nb rb 0 la' oa' acc' s' ∧
  gB b mo (dD (fO b 3) fun u=>vK N acc (0) (3 + u.toNat)) s s' acc'∧(acc.length≤N + 1→acc'.length≤N + 1)∧(∀ a,la = some a→la' = some a)∧(∀ a,oa = some a→oa' = some a)∧E.length≤E'.length∧(la = none→∀ a,la' = some a→E.length≤a)∧(oa = none→∀ a,oa' = some a→E.length≤a)∧(∀ j,j < E.length→j ∉ [lb,nb,rb,0] ++ la.toList ++ oa.toList→E'[j]? = E[j]?)∧∃ fr,∃ code,((Try.f68.body).bind (aI [1,1,1,0,0,0,1,0,1,1,0,1,1,1,0])) = some code ∧
   Run X (evT X) 68 m code (dI cl L rb nb lb ++ [(9,.int .i64 (17:Int)),(28,.int .i64 (17:Int)),(57,.bool true)]) E ⟨.normal,fr,E'⟩∧aZ [1,3,5,7,8] fr = dI cl L rb nb lb:=by
 obtain ⟨E1,oa1,s1,u,h1,h2,h3,h4⟩:=iZ (n:=3) (I:=3) rfl h.d hs hb (by omega)
 obtain ⟨ua,ub⟩:=iw h3 hs
 obtain ⟨u,rfl⟩:∃ u':Nat,u = (u':Int):=⟨u.toNat,by omega⟩
 have hV1:=h.reader h2 h4
 have hub:u < 2 ^ 3:=by omega
 have w:IntKind.i64.wrap (3 + (u:Int)) = ((3 + u:Nat):Int):=by rw [wrap_i64 (by omega) (by omega)];omega
 obtain ⟨τ3,hτ3,hb3⟩:=h.r
 obtain ⟨τ4,hτ4,hb4⟩:=hV1.r
 obtain ⟨⟨vo,τ1,τr,a1,a2,h0,ho⟩,hne0⟩:=id hV1.d
 simp only [bJ,bxO] at h0 hb3 hb4
 by_cases he1:s1.e = 0
 ·have hx:∃ x:Int,x = 0:=⟨_,rfl⟩
  obtain ⟨x,hxe⟩:=hx
  obtain ⟨E2,la2,wF,s2,g1,g2,g3,g4,g5,g6,g7⟩:=U3 (k:=3 + u) (x:=x) hV1 (by omega) (by omega)
  refine ⟨E2,la2,oa1,wF,s2,g2,?_,fun hh=>Jo g3 hh,g5,h4.same,Nat.le_trans h4.len g4,fun q1 a q2=>Nat.le_trans h4.len (g6 q1 a q2),fun q1 a q2=>h4.new a q1 q2,?_,dI cl L rb nb lb,_,rfl,?_,rfl⟩
  ·have:=h3.toE.bnd (f:=fun u=>vK N acc x (3 + u.toNat)) (y:=wF) (by rw [Int.toNat_natCast];exact Jm h3.1 g3)
   rw [← hxe];exact this
  ·intro j hj hjn
   rw [g7 j (Nat.lt_of_lt_of_le hj h4.len) ?_,h4.rest j hj (fun e=>hjn (by simp [e])) (fun a ha e=>hjn (by simp [ha,e]))]
   intro hm
   apply hjn
   simp only [List.mem_append] at hm ⊢
   rcases hm with hm | hm
   ·exact .inl hm
   ·cases ho1:oa with
    | some a=>rw [h4.same a ho1] at hm;exact .inr hm
    | none =>
     cases ho2:oa1 with
     | none=>rw [ho2] at hm;simp at hm
     | some a =>
      have:=h4.new a ho1 ho2
      rw [ho2] at hm;simp at hm;omega
  ·rw [he1] at h0
   subst hxe
   generalize 3 + u = v at *
   simp only [dI]
   (refine ⟨0,?_⟩;simp (maxSteps:=2000000) -implicitDefEqProofs [-getElem?_pos,go_sem,eqV,ah,h1,hb3,hb4,h0,w,g1,ak])
 ·refine ⟨E1,la,oa1,acc,s1,hV1,?_,fun hh=>hh,fun a ha=>ha,h4.same,h4.len,fun q1 a q2=>(by rw [q1] at q2;cases q2),fun q1 a q2=>h4.new a q1 q2,fun j hj hjn=>h4.rest j hj (fun e=>hjn (by simp [e])) (fun a ha e=>hjn (by simp [ha,e])),dI cl L rb nb lb ++ [(11,.int .i64 ((3 + u:Nat):Int)),(66,.bool false)],_,rfl,?_,?_⟩
  ·exact h3.toE.bnd (f:=fun u=>vK N acc (0) (3 + u.toNat)) (gB.stop h3.1 he1)
  ·have heb:(s1.e == 0) = false:=by simpa using he1
   simp only [dI]
   (refine ⟨0,?_⟩;simp (maxSteps:=2000000) -implicitDefEqProofs [-getElem?_pos,go_sem,eqV,ah,h1,hb3,hb4,h0,w,he1,heb,ak])
  ·simp [aZ,dI,au]
theorem abn {m cl:Nat} {L:List Int} {E:AM.Heap} (h:AgV c b mo (N:Nat) t E lb nb rb 0 la oa acc s) (hs:fM b mo s) (hb:b.length≤100000) (he:s.e = 0) (hl:acc.length≤900):∃ E' la' oa' acc' s',AgV c b mo (N:Nat) t E' lb nb rb 0 la' oa' acc' s' ∧
  gB b mo (dD (fO b 7) fun u=>vK N acc (0) (11 + u.toNat)) s s' acc'∧(acc.length≤N + 1→acc'.length≤N + 1)∧(∀ a,la = some a→la' = some a)∧(∀ a,oa = some a→oa' = some a)∧E.length≤E'.length∧(la = none→∀ a,la' = some a→E.length≤a)∧(oa = none→∀ a,oa' = some a→E.length≤a)∧(∀ j,j < E.length→j ∉ [lb,nb,rb,0] ++ la.toList ++ oa.toList→E'[j]? = E[j]?)∧∃ fr,∃ code,((Try.f68.body).bind (aI [1,1,1,0,0,0,1,0,1,1,0,1,1,1,1,1,0])) = some code ∧
   Run X (evT X) 68 m code (dI cl L rb nb lb ++ [(9,.int .i64 (18:Int)),(70,.bool true)]) E ⟨.normal,fr,E'⟩∧aZ [1,3,5,7,8] fr = dI cl L rb nb lb:=by
 obtain ⟨E1,oa1,s1,u,h1,h2,h3,h4⟩:=iZ (n:=7) (I:=7) rfl h.d hs hb (by omega)
 obtain ⟨ua,ub⟩:=iw h3 hs
 obtain ⟨u,rfl⟩:∃ u':Nat,u = (u':Int):=⟨u.toNat,by omega⟩
 have hV1:=h.reader h2 h4
 have hub:u < 2 ^ 7:=by omega
 have w:IntKind.i64.wrap (11 + (u:Int)) = ((11 + u:Nat):Int):=by rw [wrap_i64 (by omega) (by omega)];omega
 obtain ⟨τ3,hτ3,hb3⟩:=h.r
 obtain ⟨τ4,hτ4,hb4⟩:=hV1.r
 obtain ⟨⟨vo,τ1,τr,a1,a2,h0,ho⟩,hne0⟩:=id hV1.d
 simp only [bJ,bxO] at h0 hb3 hb4
 by_cases he1:s1.e = 0
 ·have hx:∃ x:Int,x = 0:=⟨_,rfl⟩
  obtain ⟨x,hxe⟩:=hx
  obtain ⟨E2,la2,wF,s2,g1,g2,g3,g4,g5,g6,g7⟩:=U3 (k:=11 + u) (x:=x) hV1 (by omega) (by omega)
  refine ⟨E2,la2,oa1,wF,s2,g2,?_,fun hh=>Jo g3 hh,g5,h4.same,Nat.le_trans h4.len g4,fun q1 a q2=>Nat.le_trans h4.len (g6 q1 a q2),fun q1 a q2=>h4.new a q1 q2,?_,dI cl L rb nb lb,_,rfl,?_,rfl⟩
  ·have:=h3.toE.bnd (f:=fun u=>vK N acc x (11 + u.toNat)) (y:=wF) (by rw [Int.toNat_natCast];exact Jm h3.1 g3)
   rw [← hxe];exact this
  ·intro j hj hjn
   rw [g7 j (Nat.lt_of_lt_of_le hj h4.len) ?_,h4.rest j hj (fun e=>hjn (by simp [e])) (fun a ha e=>hjn (by simp [ha,e]))]
   intro hm
   apply hjn
   simp only [List.mem_append] at hm ⊢
   rcases hm with hm | hm
   ·exact .inl hm
   ·cases ho1:oa with
    | some a=>rw [h4.same a ho1] at hm;exact .inr hm
    | none =>
     cases ho2:oa1 with
     | none=>rw [ho2] at hm;simp at hm
     | some a =>
      have:=h4.new a ho1 ho2
      rw [ho2] at hm;simp at hm;omega
  ·rw [he1] at h0
   subst hxe
   generalize 11 + u = v at *
   simp only [dI]
   (refine ⟨0,?_⟩;simp (maxSteps:=2000000) -implicitDefEqProofs [-getElem?_pos,go_sem,eqV,ah,h1,hb3,hb4,h0,w,g1,ak])
 ·refine ⟨E1,la,oa1,acc,s1,hV1,?_,fun hh=>hh,fun a ha=>ha,h4.same,h4.len,fun q1 a q2=>(by rw [q1] at q2;cases q2),fun q1 a q2=>h4.new a q1 q2,fun j hj hjn=>h4.rest j hj (fun e=>hjn (by simp [e])) (fun a ha e=>hjn (by simp [ha,e])),dI cl L rb nb lb ++ [(12,.int .i64 ((11 + u:Nat):Int)),(79,.bool false)],_,rfl,?_,?_⟩
  ·exact h3.toE.bnd (f:=fun u=>vK N acc (0) (11 + u.toNat)) (gB.stop h3.1 he1)
  ·have heb:(s1.e == 0) = false:=by simpa using he1
   simp only [dI]
   (refine ⟨0,?_⟩;simp (maxSteps:=2000000) -implicitDefEqProofs [-getElem?_pos,go_sem,eqV,ah,h1,hb3,hb4,h0,w,he1,heb,ak])
  ·simp [aZ,dI,au]
end
end Go.Proofs.Ytcllinmgllmpmaa
