/- DQ to IM: texts of this claim, one behind the other; what each shows stands at its head. -/
import Derived.Test.YtbodincpjijdiaaAm4
import Derived.Test.YtbodincpjijdiaaMg6
set_option linter.unusedSimpArgs false
set_option linter.unusedVariables false
set_option maxRecDepth 100000
set_option maxHeartbeats 8000000
namespace Go.Proofs.Ytbodincpjijdiaa
open Go.AM
theorem ae1 {y u k j:Nat} (hu:u < 2) (hy:y / 2 ^ k % 2 = 0):(y ||| u * 2 ^ k) / 2 ^ j % 2 = if j = k then u else y / 2 ^ j % 2:=by
 have e:∀ x i:Nat,x / 2 ^ i % 2 = if x.testBit i then 1 else 0:=by
  intro x i
  rw [Nat.testBit_eq_decide_div_mod_eq]
  by_cases h:x / 2 ^ i % 2 = 1
  ·simp [h]
  ·rw [if_neg (by simpa using h)];omega
 have hyk:y.testBit k = false:=by
  rw [Nat.testBit_eq_decide_div_mod_eq,hy];rfl
 rw [e,e,Nat.testBit_or]
 have hu2:u = 0∨u = 1:=by omega
 rcases hu2 with rfl | rfl
 ·rw [Nat.zero_mul,Nat.zero_testBit,Bool.or_false]
  by_cases hj:j = k
  ·subst hj;simp [hyk]
  ·simp [hj]
 ·rw [Nat.one_mul,Nat.testBit_two_pow]
  by_cases hj:j = k
  ·subst hj;simp
  ·have:¬ k = j:=fun h=>hj h.symm
   simp [hj,this]
def Cln (s:Ws):Prop:=∀ i,s.k≤i→iI s.o i = 0
structure Gd (s:Ws):Prop where
 ok:jD s
 cl:Cln s
structure Ext (s s':Ws):Prop where
 le:s.k≤s'.k
 at':∀ i,i < s.k→iI s'.o i = iI s.o i
theorem Ext.refl (s:Ws):Ext s s:=⟨atG _,fun _ _=>rfl⟩
theorem Ext.trans {s s1 s2:Ws} (h:Ext s s1) (h2:Ext s1 s2):Ext s s2:=⟨auN h.le h2.le,fun i hi=>by rw [h2.at' i (auv hi h.le),h.at' i hi]⟩
theorem Ee {s:Ws} {x:Int} (h:Gd s) (i:Nat):iI (qc s x).o i = if i = s.k then x % 2 else iI s.o i:=by
 have hok:=h.ok
 unfold jD at hok
 have h0:∀ i,iI (if s.k % 8 = 0 then s.o ++ [0] else s.o) i = iI s.o i:=by
  intro i
  split
  ·unfold iI
   by_cases h1:i / 8 < s.o.length
   ·rw [atH,atH,atE h1]
   ·have h3:s.o.getD (i / 8) 0 = 0:=by rw [atH,atP (by omega)];rfl
    have h2:(s.o ++ [0]).getD (i / 8) 0 = 0:=by
     rw [atH,atJ (by omega)]
     cases i / 8 - s.o.length with
     | zero=>rfl
     | succ n=>rfl
    rw [h2,h3]
  ·rfl
 have hlen:s.k / 8 < (if s.k % 8 = 0 then s.o ++ [0] else s.o).length:=by
  split
  ·simp;omega
  ·omega
 have hcl:iI (if s.k % 8 = 0 then s.o ++ [0] else s.o) s.k = 0:=by rw [h0];exact h.cl _ (atG _)
 rw [← h0 i]
 unfold qc
 simp only
 generalize (if s.k % 8 = 0 then s.o ++ [0] else s.o) = b at *
 unfold iI at *
 by_cases h8:i / 8 = s.k / 8
 ·rw [h8]
  have e1:(b.set (s.k / 8) (orB (b.getD (s.k / 8) 0) x (s.k % 8))).getD (s.k / 8) 0 = orB (b.getD (s.k / 8) 0) x (s.k % 8):=by
   rw [atH,auF hlen];rfl
  rw [e1]
  generalize b.getD (s.k / 8) 0 = y at *
  have hx2:(x % 2).toNat < 2:=by omega
  have hkr:s.k % 8 < 8:=Nat.mod_lt _ (by omega)
  have hor:y.toNat ||| (x % 2).toNat * 2 ^ (s.k % 8) < 256:=awd (n:=8) y.toNat_lt (ac5 hx2 hkr)
  have e2:(orB y x (s.k % 8)).toNat = y.toNat ||| (x % 2).toNat * 2 ^ (s.k % 8):=by
   unfold orB
   rw [au1]
   exact auT hor
  rw [e2,ae1 hx2 (by omega)]
  by_cases hi:i = s.k
  ·rw [if_pos (by rw [hi]),if_pos hi];omega
  ·rw [if_neg (by omega),if_neg hi]
 ·have e1:(b.set (s.k / 8) (orB (b.getD (s.k / 8) 0) x (s.k % 8))).getD (i / 8) 0 = b.getD (i / 8) 0:=by
   rw [atH,atW (auf h8),← atH]
  rw [e1,if_neg (fun h=>h8 (by rw [h]))]
theorem Qz {s:Ws} {x:Int} (h:Gd s):Gd (qc s x)∧Ext s (qc s x):=by
 refine ⟨⟨D8 h.ok,fun i hi=>?_⟩,Nat.le_succ _,fun i hi=>?_⟩
 ·have hi':s.k + 1≤i:=hi
  rw [Ee h,if_neg (by omega)]
  exact h.cl i (by omega)
 ·rw [Ee h,if_neg (by omega)]
theorem fJ {s:Ws} {x:Int} (h:Gd s):∀ n,Gd (cZ s x n)∧Ext s (cZ s x n)∧∀ i,i < n→iI (cZ s x n).o (s.k + i) = x / 2 ^ i % 2
 | 0=>⟨h,Ext.refl s,fun i hi=>absurd hi (by omega)⟩
 | n + 1=>by
  obtain ⟨h1,h2,h3⟩:=fJ (x:=x) h n
  obtain ⟨h4,h5⟩:=Qz (x:=x / 2 ^ n) h1
  have hk:=(eu (x:=x) h.ok n).2
  refine ⟨h4,h2.trans h5,fun i hi=>?_⟩
  show iI (qc _ _).o _ = _
  rw [Ee h1]
  by_cases hin:i = n
  ·subst hin
   rw [if_pos hk.symm]
  ·rw [if_neg (by omega)]
   exact h3 i (by omega)
theorem EO {x:Int}:∀ (n:Nat) {s:Ws},Gd s→Gd (rX s x n)∧Ext s (rX s x n)∧∀ i,i < n→iI (rX s x n).o (s.k + i) = x / 2 ^ (n - 1 - i) % 2
 | 0,s,h=>⟨h,Ext.refl s,fun i hi=>absurd hi (by omega)⟩
 | n + 1,s,h=>by
  obtain ⟨h4,h5⟩:=Qz (x:=x / 2 ^ n) h
  obtain ⟨h1,h2,h3⟩:=EO (x:=x) n h4
  have hk:(qc s (x / 2 ^ n)).k = s.k + 1:=rfl
  refine ⟨h1,h5.trans h2,fun i hi=>?_⟩
  show iI (rX (qc s (x / 2 ^ n)) x n).o _ = _
  cases i with
  | zero =>
   rw [h2.at' _ (by rw [hk];omega),ave,Ee h,if_pos rfl]
   rfl
  | succ i =>
   have:=h3 i (by omega)
   rw [hk] at this
   rw [show s.k + (i + 1) = s.k + 1 + i by omega,this,show n + 1 - 1 - (i + 1) = n - 1 - i by omega]
structure Agr (b:List UInt8) (s:Ws):Prop where
 le:s.k≤8 * b.length
 at':∀ i,i < s.k→iI b i = iI s.o i
theorem Agr.ext {b:List UInt8} {s s':Ws} (h:Ext s s') (h2:Agr b s'):Agr b s:=⟨auN h.le h2.le,fun i hi=>by rw [h2.at' i (auv hi h.le),h.at' i hi]⟩
theorem YP (x:Int) (n:Nat):x % 2 ^ (n + 1) = x % 2 ^ n + 2 ^ n * (x / 2 ^ n % 2):=by
 have hp:(0:Int) < 2 ^ n:=avS (by omega)
 rw [awf]
 generalize (2:Int) ^ n = p at *
 have h1:=Int.emod_add_mul_ediv x p
 have h2:=Int.emod_add_mul_ediv (x / p) 2
 have h3:=Int.emod_nonneg x (show p ≠ 0 by omega)
 have h4:=Int.emod_lt_of_pos x hp
 generalize x % p = r at *
 generalize hq:x / p = q at *
 have h5:q % 2 = 0∨q % 2 = 1:=by omega
 have e:x = (r + p * (q % 2)) + (p * 2) * (q / 2):=by
  rw [← h1]
  conv=>lhs;rw [← h2]
  rw [Int.mul_add,Int.mul_assoc]
  omega
 rw [e,Int.add_mul_emod_self_left]
 rcases h5 with h5 | h5 <;> rw [h5]
 ·exact avi (by omega) (by omega)
 ·exact avi (by omega) (by omega)
theorem yL {b:List UInt8} {k:Nat} {o:List UInt8} {x:Int}:∀ n,k + n≤8 * b.length→(∀ i,i < n→iI b (k + i) = x / 2 ^ i % 2)→gQ b n k o = .ok (x % 2 ^ n) (k + n) o
 | 0,_,_=>by
  show Res.ok 0 k o = _
  rw [Int.pow_zero,Int.emod_one]
  rfl
 | n + 1,hl,h=>by
  have ih:=yL (x:=x) (o:=o) n (by omega) fun i hi=>h i (by omega)
  unfold gQ
  rw [dZ ih]
  have hb:vW b (k + n) o = .ok (x / 2 ^ n % 2) (k + n + 1) o:=by
   unfold vW
   rw [if_pos (by omega),h n (by omega)]
  rw [dZ hb,YP]
  rfl
theorem pJ {b:List UInt8} {s:Ws} {o:List UInt8} {x:Int} {n:Nat} (h:Gd s) (ha:Agr b (cZ s x n)):gQ b n s.k o = .ok (x % 2 ^ n) (cZ s x n).k o:=by
 have hk:=(eu (x:=x) h.ok n).2
 have hle:=ha.le
 rw [hk] at hle ⊢
 refine yL n hle fun i hi=>?_
 rw [ha.at' _ (by omega)]
 exact (fJ h n).2.2 i hi
theorem Wq {b:List UInt8} {l codes:List Int} {c:Int} {L y:Nat} {o:List UInt8} (hc:0≤c) (hno:∀ i,1≤i→i < L→jI (i:Nat) (c / 2 ^ (L - i)) l codes 0 = none) (hyes:jI (L:Nat) c l codes 0 = some y) (k0:Nat) (hle:k0 + L≤8 * b.length) (hb:∀ i,i < L→iI b (k0 + i) = c / 2 ^ (L - 1 - i) % 2) :
  ∀ (r i f:Nat),r + i = L + 1→1≤i→1≤r→r≤f→decP b l codes f i (c / 2 ^ r) (k0 + i - 1) o = .ok y (k0 + L) o
 | 0,i,f,_,_,h,_=>absurd h (by omega)
 | r + 1,i,f,hi,h1,_,hf=>by
  obtain ⟨f,rfl⟩:∃ g,f = g + 1:=⟨f - 1,by omega⟩
  have hbit:vW b (k0 + i - 1) o = .ok (c / 2 ^ r % 2) (k0 + i) o:=by
   unfold vW
   have:=hb (i - 1) (by omega)
   rw [show k0 + (i - 1) = k0 + i - 1 by omega,show L - 1 - (i - 1) = r by omega] at this
   rw [if_pos (by omega),this,show k0 + i - 1 + 1 = k0 + i by omega]
  have hx:2 * (c / 2 ^ (r + 1)) + c / 2 ^ r % 2 = c / 2 ^ r:=by
   rw [awf,← Int.ediv_ediv_of_nonneg (Int.le_of_lt (avS (by omega)))]
   omega
  unfold decP
  rw [dZ hbit,hx]
  by_cases hr:r = 0
  ·subst hr
   have:i = L:=by omega
   subst this
   rw [Int.pow_zero,Int.ediv_one,hyes]
   rfl
  ·have:=hno i h1 (by omega)
   rw [show L - i = r by omega] at this
   rw [this]
   have ih:=Wq hc hno hyes k0 hle hb (o:=o) r (i + 1) f (by omega) (by omega) (by omega) (by omega)
   rw [show k0 + (i + 1) - 1 = k0 + i by omega] at ih
   exact ih
def EP (l codes:List Int) (y:Nat):Prop:=1≤(l.getD y 0).toNat∧(l.getD y 0).toNat≤(mxL 0 l).toNat∧0≤codes.getD y 0∧codes.getD y 0 < 2 ^ (l.getD y 0).toNat ∧
 (∀ i,1≤i→i < (l.getD y 0).toNat→jI (i:Nat) (codes.getD y 0 / 2 ^ ((l.getD y 0).toNat - i)) l codes 0 = none)∧jI ((l.getD y 0).toNat:Nat) (codes.getD y 0) l codes 0 = some y
theorem Wu {b:List UInt8} {l:List Int} {s:Ws} {y:Nat} {o:List UInt8} (h:Gd s) (hl:(iF l).2 = 0) (hc:EP l (iw l) y) (ha:Agr b (jO s (iw l) l y)):vJ b l s.k o = .ok y (jO s (iw l) l y).k o:=by
 obtain ⟨c1,c2,c3,c3',c4,c5⟩:=hc
 unfold jO at ha ⊢
 have hk:=(EC (x:=(iw l).getD y 0) (l.getD y 0).toNat h.ok).2
 obtain ⟨_,_,hb⟩:=EO (x:=(iw l).getD y 0) (l.getD y 0).toNat h
 have hle:=ha.le
 rw [hk] at hle ⊢
 unfold vJ
 rw [if_pos hl]
 have:=Wq (o:=o) c3 c4 c5 s.k hle (fun i hi=>by rw [ha.at' _ (by omega)];exact hb i hi) (l.getD y 0).toNat 1 (mxL 0 l).toNat (by omega) (by omega) c1 c2
 rw [show (iw l).getD y 0 / 2 ^ (l.getD y 0).toNat = 0 from Int.ediv_eq_zero_of_lt c3 c3'] at this
 exact this
def lcX:List Int:=((List.range 144).map fun i=>Int.ofNat (48 + i)) ++ ((List.range 112).map fun i=>Int.ofNat (400 + i)) ++ ((List.range 24).map fun i=>Int.ofNat i) ++ ((List.range 8).map fun i=>Int.ofNat (192 + i))
def dcX:List Int:=(List.range 32).map fun i=>Int.ofNat i
theorem ae2:lcL = lcX:=by decide +kernel
theorem Wv:iw flL = lcX:=by decide +kernel
theorem ae3:dcL = dcX:=by decide +kernel
theorem Wx:iw flD = dcX:=by decide +kernel
theorem Jp:(iF flL).2 = 0∧(iF flD).2 = 0∧(mxL 0 flL).toNat = 9∧(mxL 0 flD).toNat = 5:=by decide +kernel
theorem yQ {i code:Int}:∀ (l cs:List Int) (j:Nat),(∀ p ∈ l.zip cs,¬ (p.1 = i∧p.2 = code))→jI i code l cs j = none
 | [],_,_,_=>by unfold jI;rfl
 | x :: r,[],_,_=>by unfold jI;rfl
 | x :: r,y :: cs,j,h=>by
  unfold jI
  rw [if_neg (h (x,y) (auz ..))]
  exact yQ r cs _ fun p hp=>h p (auc _ hp)
theorem KO:∀ p ∈ flL.zip lcX,(p.1 = 8∧48≤p.2∧p.2≤199)∨(p.1 = 9∧400≤p.2∧p.2≤511)∨(p.1 = 7∧0≤p.2∧p.2≤23):=by decide +kernel
theorem KP:∀ p ∈ flD.zip dcX,p.1 = 5∧0≤p.2∧p.2≤31:=by decide +kernel
theorem YQ:∀ y,y < 288→(flL.getD y 0,lcX.getD y 0) ∈ flL.zip lcX∧jI (flL.getD y 0).toNat (lcX.getD y 0) flL lcX 0 = some y:=by decide +kernel
theorem YR:∀ y,y < 32→(flD.getD y 0,dcX.getD y 0) ∈ flD.zip dcX∧jI (flD.getD y 0).toNat (dcX.getD y 0) flD dcX 0 = some y:=by decide +kernel
theorem ae4 {y:Nat} (h:y < 288):EP flL (iw flL) y:=by
 obtain ⟨h1,h2⟩:=YQ y h
 have hc:=KO _ h1
 unfold EP
 rw [Wv,Jp.2.2.1]
 simp only at hc
 generalize flL.getD y 0 = L at *
 generalize lcX.getD y 0 = c at *
 have none:∀ i:Nat,i < L.toNat→(i = 7→c / 2 ^ (L.toNat - i) ≥ 24)→(i = 8→c / 2 ^ (L.toNat - i) ≥ 200)→L≤9→jI (i:Nat) (c / 2 ^ (L.toNat - i)) flL lcX 0 = none:=by
  intro i hi h7 h8 h9
  refine yQ _ _ _ fun p hp ⟨e1,e2⟩=>?_
  have:=KO p hp
  rw [e1,e2] at this
  rcases this with ⟨g1,g2,g3⟩ | ⟨g1,g2,g3⟩ | ⟨g1,g2,g3⟩
  ·have:=h8 (by omega);omega
  ·omega
  ·have:=h7 (by omega);omega
 rcases hc with ⟨rfl,g2,g3⟩ | ⟨rfl,g2,g3⟩ | ⟨rfl,g2,g3⟩
 ·refine ⟨by decide,by decide,by omega,?_,fun i h1 hi=>none i hi ?_ ?_ (by omega),h2⟩
  ·show c < 256;omega
  ·rintro rfl
   show c / 2 ≥ 24
   omega
  ·rintro rfl
   exact absurd hi (by decide)
 ·refine ⟨by decide,by decide,by omega,?_,fun i h1 hi=>none i hi ?_ ?_ (by omega),h2⟩
  ·show c < 512;omega
  ·rintro rfl
   show c / 4 ≥ 24
   omega
  ·rintro rfl
   show c / 2 ≥ 200
   omega
 ·refine ⟨by decide,by decide,by omega,?_,fun i h1 hi=>none i hi ?_ ?_ (by omega),h2⟩
  ·show c < 128;omega
  ·rintro rfl
   exact absurd hi (by decide)
  ·rintro rfl
   exact absurd hi (by decide)
theorem ae5 {y:Nat} (h:y < 32):EP flD (iw flD) y:=by
 obtain ⟨h1,h2⟩:=YR y h
 have hc:=KP _ h1
 unfold EP
 rw [Wx,Jp.2.2.2]
 simp only at hc
 generalize flD.getD y 0 = L at *
 generalize dcX.getD y 0 = c at *
 obtain ⟨rfl,g2,g3⟩:=hc
 refine ⟨by decide,by decide,by omega,?_,fun i h1 hi=>?_,h2⟩
 ·show c < 32;omega
 ·refine yQ _ _ _ fun p hp ⟨e1,e2⟩=>?_
  have:=(KP p hp).1
  have:i < 5:=hi
  omega
theorem qA {s:Ws} {cs ls:List Int} {y:Nat} (h:Gd s):Gd (jO s cs ls y)∧Ext s (jO s cs ls y):=by
 obtain ⟨h1,h2,_⟩:=EO (x:=cs.getD y 0) (ls.getD y 0).toNat h
 exact ⟨h1,h2⟩
theorem Jq {b:List UInt8} {s:Ws} {y:Nat} {o:List UInt8} (h:Gd s) (hy:y < 288) (ha:Agr b (jO s lcL flL y)):vJ b zN s.k o = .ok y (jO s lcL flL y).k o:=by
 have e:lcL = iw flL:=by rw [ae2,Wv]
 rw [e] at ha ⊢
 exact Wu h Jp.1 (ae4 hy) ha
theorem YS {b:List UInt8} {s:Ws} {y:Nat} {o:List UInt8} (h:Gd s) (hy:y < 32) (ha:Agr b (jO s dcL flD y)):vJ b yO s.k o = .ok y (jO s dcL flD y).k o:=by
 have e:dcL = iw flD:=by rw [ae3,Wx]
 rw [e] at ha ⊢
 exact Wu h Jp.2.1 (ae5 hy) ha
theorem Wy {s:Ws} {x:Px} (h:Gd s):Gd (pxW s x)∧Ext s (pxW s x):=by
 unfold pxW
 split
 ·exact qA h
 ·obtain ⟨a1,b1⟩:=qA (cs:=lcL) (ls:=flL) (y:=(lenOf x.len.toNat).1) h
  obtain ⟨a2,b2,_⟩:=fJ (x:=x.len - ((lenOf x.len.toNat).2.1:Nat)) a1 (lenOf x.len.toNat).2.2
  obtain ⟨a3,b3⟩:=qA (cs:=dcL) (ls:=flD) (y:=(eY x.dist.toNat).1) a2
  obtain ⟨a4,b4,_⟩:=fJ (x:=x.dist - ((eY x.dist.toNat).2.1:Nat)) a3 (eY x.dist.toNat).2.2
  exact ⟨a4,b1.trans (b2.trans (b3.trans b4))⟩
theorem Et:∀ (l:List Px) {s:Ws},Gd s→Gd (l.foldl pxW s)∧Ext s (l.foldl pxW s)
 | [],s,h=>⟨h,Ext.refl s⟩
 | x :: l,s,h=>by
  obtain ⟨a1,b1⟩:=Wy (x:=x) h
  obtain ⟨a2,b2⟩:=Et l a1
  exact ⟨a2,b1.trans b2⟩
theorem YT:∀ n,n < 259→3≤n→Bz (lenOf n).1 = ((lenOf n).2.1:Nat)∧DT (lenOf n).1 = (lenOf n).2.2:=by decide +kernel
theorem Jr {per n:Nat}:∀ (f s base bits j:Nat),bits≤(gF per n f s base bits j).2.2
 | 0,_,_,_,_=>atG _
 | f + 1,s,base,bits,j=>by
  unfold gF
  split
  ·exact auN (Nat.le_succ _) (Jr f _ _ _ _)
  ·split
   ·exact atG _
   ·exact Jr f _ _ _ _
theorem YU {n:Nat} (h1:1≤n) (h:n≤32768):uf (eY n).1 = (eY n).2.1∧mg (eY n).1 = (eY n).2.2:=by
 unfold eY uf mg
 by_cases h4:n≤4
 ·rw [if_pos h4]
  simp only
  rw [if_pos (by omega),if_pos (by omega)]
  omega
 ·rw [if_neg h4]
  have hb:=Jr (per:=2) (n:=n) 40 4 5 1 0
  obtain ⟨b,j,hj,he⟩:=zO (n:=n) (f:=40) (bits:=1) (j:=0) (by omega) (Js h)
  have he':gF 2 n 40 4 5 1 0 = (2 * b + 2 + j,(2 + j) * 2 ^ b + 1,b):=he
  rw [he'] at hb ⊢
  simp only at hb ⊢
  rw [if_neg (by omega),if_neg (by omega)]
  have e1:(2 * b + 2 + j) / 2 - 1 = b:=by omega
  have e2:(2 * b + 2 + j) % 2 = j:=by omega
  rw [e1,e2]
  omega
theorem QA {mo:Int} {d:Nat}:∀ (n k:Nat) (o:List UInt8),((kY d n o).length:Int)≤mo→rU (yN mo d) n k o = .ok () k (kY d n o)
 | 0,_,_,_=>rfl
 | n + 1,k,o,h=>by
  have hl:=xC d (n + 1) o
  have h1:yN mo d k o = .ok () k (o ++ [o.getD (o.length - d) 0]):=by
   unfold yN qB
   rw [if_pos (by omega)]
  unfold rU
  rw [dZ h1]
  exact QA n k _ h
theorem zQ:∀ (l:List Px) (o out:List UInt8),kF l o = (out,0)→o.length≤out.length
 | [],o,out,h=>by
  unfold kF at h
  simp only [atC] at h
  rw [h.1]
  exact atG _
 | x :: r,o,out,h=>by
  unfold kF at h
  split at h
  ·cases h
  ·split at h
   ·have:=zQ r _ _ h
    simp at this
    omega
   ·split at h
    ·cases h
    ·have:=zQ r _ _ h
     rw [xC] at this
     omega
theorem Sl {x:Px} (h:nN x = true) (h0:¬ x.len = 0):3≤x.len∧x.len≤258∧1≤x.dist∧x.dist≤32768:=by
 unfold nN at h
 rw [if_neg h0] at h
 simp only [atS,decide_eq_true_eq] at h
 exact ⟨h.1,h.2.1,h.2.2.1,h.2.2.2.1⟩
theorem Ou {b:List UInt8} {mo:Int}:∀ (l:List Px) (s:Ws) (o out:List UInt8) (f:Nat),Gd s→kF l o = (out,0)→Agr b (jO (l.foldl pxW s) lcL flL 256)→l.length < f→(out.length:Int)≤mo →
  sV b mo zN yO f s.k o = .ok () (jO (l.foldl pxW s) lcL flL 256).k out
 | [],s,o,out,f,hs,he,ha,hf,hm=>by
  obtain ⟨f,rfl⟩:∃ g,f = g + 1:=⟨f - 1,by simp at hf;omega⟩
  unfold kF at he
  simp only [atC] at he
  obtain ⟨rfl,_⟩:=he
  have h1:=Jq (o:=o) hs (by omega) ha
  unfold sV
  rw [dZ h1]
  rfl
 | x :: r,s,o,out,f,hs,he,ha,hf,hm=>by
  obtain ⟨f,rfl⟩:∃ g,f = g + 1:=⟨f - 1,by simp at hf;omega⟩
  have hf':r.length < f:=by simp at hf;omega
  have hmay:nN x = true:=by
   unfold kF at he
   split at he
   ·cases he
   ·rename_i h;simpa using h
  unfold kF at he
  rw [if_neg (by simp [hmay])] at he
  obtain ⟨g1,g2⟩:=Wy (x:=x) hs
  obtain ⟨g3,g4⟩:=Et r g1
  have ha':Agr b (jO (r.foldl pxW (pxW s x)) lcL flL 256):=ha
  have hax:=Agr.ext (g4.trans (qA g3).2) ha'
  show sV b mo zN yO (f + 1) s.k o = .ok () (jO (r.foldl pxW (pxW s x)) lcL flL 256).k out
  unfold sV
  by_cases h0:x.len = 0
  ·rw [if_pos h0] at he
   have ih:=Ou r (pxW s x) _ _ f g1 he ha' hf' hm
   have hlen:=zQ _ _ _ he
   have hx:pxW s x = jO s lcL flL x.byte.toNat:=by unfold pxW;rw [if_pos h0]
   rw [hx] at hax ih ⊢
   have hb:=x.byte.toNat_lt
   have hb2:x.byte.toNat < 256:=hb
   rw [dZ (Jq (o:=o) hs (by omega) hax)]
   rw [if_neg (by omega),if_pos hb2]
   have ht:qB mo (UInt8.ofNat x.byte.toNat) (jO s lcL flL x.byte.toNat).k o = .ok () (jO s lcL flL x.byte.toNat).k (o ++ [x.byte]):=by
    unfold qB
    simp at hlen
    rw [if_pos (by omega)]
    simp
   rw [dZ ht]
   exact ih
  ·rw [if_neg h0] at he
   obtain ⟨m1,m2,m3,m4⟩:=Sl hmay h0
   have hd:¬ (o.length:Int) < x.dist:=by
    intro h
    rw [if_pos h] at he
    cases he
   rw [if_neg hd] at he
   have ih:=Ou r (pxW s x) _ _ f g1 he ha' hf' hm
   have hlen:=zQ _ _ _ he
   have hx:pxW s x = cZ (jO (cZ (jO s lcL flL (lenOf x.len.toNat).1) (x.len - ((lenOf x.len.toNat).2.1:Nat)) (lenOf x.len.toNat).2.2) dcL flD (eY x.dist.toNat).1) (x.dist - ((eY x.dist.toNat).2.1:Nat)) (eY x.dist.toNat).2.2:=by unfold pxW;rw [if_neg h0]
   rw [hx] at hax ih ⊢
   obtain ⟨n1,n2,n3,n4,n5⟩:=vX x.len.toNat (by omega) (by omega)
   obtain ⟨t1,t2⟩:=YT x.len.toNat (by omega) (by omega)
   obtain ⟨d1,d2,d3,d4⟩:=vY (n:=x.dist.toNat) (by omega) (by omega)
   obtain ⟨u1,u2⟩:=YU (n:=x.dist.toNat) (by omega) (by omega)
   generalize lenOf x.len.toNat = LO at *
   obtain ⟨ls,lb,lx⟩:=LO
   generalize eY x.dist.toNat = DO at *
   obtain ⟨ds,db,dx⟩:=DO
   simp only at n1 n2 n3 n4 n5 t1 t2 d1 d2 d3 d4 u1 u2 hax ih ⊢
   obtain ⟨a1,b1⟩:=qA (cs:=lcL) (ls:=flL) (y:=ls) hs
   obtain ⟨a2,b2,_⟩:=fJ (x:=x.len - (lb:Nat)) a1 lx
   obtain ⟨a3,b3⟩:=qA (cs:=dcL) (ls:=flD) (y:=ds) a2
   obtain ⟨a4,b4,_⟩:=fJ (x:=x.dist - (db:Nat)) a3 dx
   have x3:=Agr.ext b4 hax
   have x2:=Agr.ext b3 x3
   have x1:=Agr.ext b2 x2
   rw [dZ (Jq (o:=o) hs (by omega) x1),if_neg (by omega),if_neg (by omega)]
   have r1:=pJ (o:=o) a1 x2
   have r2:=YS (o:=o) a2 (by omega) x3
   have r3:=pJ (o:=o) a3 hax
   generalize cZ (jO (cZ (jO s lcL flL ls) (x.len - (lb:Nat)) lx) dcL flD ds) (x.dist - (db:Nat)) dx = s4 at *
   generalize jO (cZ (jO s lcL flL ls) (x.len - (lb:Nat)) lx) dcL flD ds = s3 at *
   generalize cZ (jO s lcL flL ls) (x.len - (lb:Nat)) lx = s2 at *
   generalize jO s lcL flL ls = s1 at *
   have q1:(x.len - (lb:Nat)) % 2 ^ lx = x.len - (lb:Nat):=by
    have:(((2:Nat) ^ lx:Nat):Int) = 2 ^ lx:=by push_cast;rfl
    rw [← this]
    exact avi (by omega) (by omega)
   have q2:(x.dist - (db:Nat)) % 2 ^ dx = x.dist - (db:Nat):=by
    have:(((2:Nat) ^ dx:Nat):Int) = 2 ^ dx:=by push_cast;rfl
    rw [← this]
    exact avi (by omega) (by omega)
   rw [q1] at r1
   rw [q2] at r3
   have an7:DU b mo yO ls s1.k o = .ok () s4.k (kY x.dist.toNat x.len.toNat o):=by
    unfold DU
    rw [if_neg (by omega),t2,dZ r1,dZ r2,if_neg (by omega),u2,dZ r3,t1,u1]
    rw [show db + (x.dist - (db:Nat)).toNat = x.dist.toNat by omega,show ((lb:Nat) + (x.len - (lb:Nat)):Int).toNat = x.len.toNat by omega]
    unfold Oq
    rw [if_neg (by omega)]
    exact QA _ _ _ (by omega)
   rw [dZ an7]
   exact ih
theorem Gd.nil:Gd ⟨0,[]⟩:=⟨rfl,fun i _=>by unfold iI;simp⟩
theorem YV {F:Nat} {b out:List UInt8} {mo:Int} {l:List Px} (he:kF l [] = (out,0)) (ha:Agr b (Bd l)) (hm:(out.length:Int)≤mo) (hF:l.length < F):∃ L,qC b mo F F 0 [] = .ok L (Bd l).k out:=by
 obtain ⟨F,rfl⟩:∃ g,F = g + 1:=⟨F - 1,by omega⟩
 unfold Bd at ha ⊢
 obtain ⟨a1,b1,_⟩:=fJ (x:=1) Gd.nil 1
 obtain ⟨a2,b2,_⟩:=fJ (x:=1) a1 2
 obtain ⟨a3,b3⟩:=Et l a2
 have x3:=Agr.ext (qA a3).2 ha
 have x2:=Agr.ext b3 x3
 have x1:=Agr.ext b2 x2
 have r1:=pJ (o:=[]) Gd.nil x1
 have r2:=pJ (o:=[]) a1 x2
 have r3:=Ou (mo:=mo) l _ [] out (F + 1) a2 he ha hF hm
 have hbl:BD b mo (F + 1) 0 [] = .ok ⟨1,true,0,out.length⟩ (jO (l.foldl pxW (cZ (cZ ⟨0,[]⟩ 1 1) 1 2)) lcL flL 256).k out:=by
  unfold BD
  rw [dZ r1,dZ r2]
  have hk:BA b mo (F + 1) (1 % 2 ^ 2) = sV b mo zN yO (F + 1):=by unfold BA;rw [if_neg (by decide),if_pos (by decide)]
  rw [hk,dZ r3]
  rfl
 refine ⟨[⟨1,true,0,out.length⟩],?_⟩
 unfold qC
 rw [dZ hbl,if_pos rfl]
 rfl
theorem YW {F:Nat} {b out:List UInt8} {mo:Int} {k:Nat} (h:∃ L,qC b mo F F 0 [] = .ok L k out) (hm:(out.length:Int)≤mo):vK F b mo = (out,(((k + 7) / 8:Nat):Int),0):=by
 obtain ⟨L,h⟩:=h
 unfold vK
 rw [if_neg (by omega),h]
theorem YX {s:Ws} {cs ls:List Int} {y:Nat} (h:jD s) (hk:1≤s.k):(jO s cs ls y).o ≠ []:=by
 obtain ⟨h1,h2⟩:=kL (cs:=cs) (ls:=ls) (y:=y) h
 intro e
 unfold jD at h1
 rw [e] at h1
 simp at h1
 omega
theorem YZ {l:List Px} (hm:∀ x ∈ l,nN x = true):(Bd l).o ≠ []:=by
 unfold Bd
 have h0:jD ⟨0,[]⟩:=rfl
 obtain ⟨h1,h2⟩:=eu (x:=1) h0 1
 obtain ⟨h3,h4⟩:=eu (x:=1) h1 2
 obtain ⟨h5,h6⟩:=ER l _ h3 hm
 have hmono:∀ (l:List Px) (s:Ws),jD s→(∀ x ∈ l,nN x = true)→s.k≤(l.foldl pxW s).k:=by
  intro l
  induction l with
  | nil=>intro s _ _;exact atG _
  | cons x l ih =>
   intro s hs hm
   obtain ⟨h1,_⟩:=Ov hs (hm x (auz ..))
   refine auN ?_ (ih (pxW s x) h1 fun y hy=>hm y (auc _ hy))
   unfold pxW
   split
   ·have:=(kL (cs:=lcL) (ls:=flL) (y:=x.byte.toNat) hs).2
    omega
   ·have a1:=kL (cs:=lcL) (ls:=flL) (y:=(lenOf x.len.toNat).1) hs
    have a2:=eu (x:=x.len - ((lenOf x.len.toNat).2.1:Nat)) a1.1 (lenOf x.len.toNat).2.2
    have a3:=kL (cs:=dcL) (ls:=flD) (y:=(eY x.dist.toNat).1) a2.1
    have a4:=eu (x:=x.dist - ((eY x.dist.toNat).2.1:Nat)) a3.1 (eY x.dist.toNat).2.2
    have b1:=a1.2;have b2:=a2.2;have b3:=a3.2;have b4:=a4.2
    omega
 have:=hmono l _ h3 hm
 exact YX h5 (by omega)
theorem QB {H:AM.Heap} {o:Nat} {l:List Int} (h:H[o]? = some (some (flO l))):fC H (.sl o 0 l.length 0) = some (.pi .i64 l):=by
 simp [fC,live,h,flO,gG]
theorem an8:mJ X 88 [] = some (.agg (.pc [.ro 0 .pn 0,.int .i64 0])):=by kernel_rfl
def fiX (l:List Px) (fr:AM.Frame) (E:AM.Heap):Prop:=∃ a g ob,ay fr 2 = .sl a 0 (mM l).1.length g∧ay fr 3 = .int .i64 (mM l).2∧E[a]? = some (some ob)∧Rw (.pb (mM l).1) g ob
section
variable {c:Nat} {l:List Px}
theorem Ox {m:Nat} (hl:l.length≤2000):∃ code,Try.f42.body = some code∧aj (nK (fiX l)) X (evT X) 42 m code [(0,.ro c (.pr 3 (l.map pxR)) 1)] []:=by
 refine ⟨_,rfl,?_⟩
 obtain ⟨obE,hwE,hEx⟩:=Sm (H:=[some (⟨.pb [],0,none,0,true,false,0⟩:AM.Obj)]) (a:=.ro c (.pr 3 (l.map pxR)) 1) (l:=l) rfl hl
 have hmay:=Jt (l:=l) (o:=[])
 unfold fiX mM
 generalize hex:kF l [] = r at *
 obtain ⟨o,e⟩:=r
 simp only at hEx hmay ⊢
 apply aj.seq (fr':=[(0,.ro c (.pr 3 (l.map pxR)) 1)]) (H':=[some (⟨.pb [],0,none,0,true,false,0⟩:AM.Obj)])
 ·generalize l.map pxR = R at *
  (refine ⟨0,?_⟩;simp [-getElem?_pos,go_sem,eqV,ah,ak,rowOf,ES])
 apply aj.assoc
 apply aj.seq (fr':=[(0,.ro c (.pr 3 (l.map pxR)) 1),(5,.int .i64 e)]) (H':=[some (⟨.pb [],0,none,0,true,false,0⟩:AM.Obj),some obE])
 ·simp only [avp,List.singleton_append] at hEx
  generalize l.map pxR = R at *
  generalize o.length = K at *
  (refine ⟨0,?_⟩;simp [-getElem?_pos,go_sem,eqV,ah,hEx,ak])
 apply aj.assoc
 by_cases he:¬ e = 0
 ·have heb:(e != 0) = true:=by simpa using he
  rw [if_pos he]
  refine aj.of (o:=⟨.ret,[(2,.sl 2 0 0 0),(3,.int .i64 e)],[some (⟨.pb [],0,none,0,true,false,0⟩:AM.Obj),some obE,some (⟨.pb [],0,none,0,true,false,0⟩:AM.Obj)]⟩) ?_ ⟨rfl,2,0,_,rfl,rfl,rfl,⟨rfl,rfl,rfl,rfl,rfl⟩⟩
  apply Run.seq (fr':=[(0,.ro c (.pr 3 (l.map pxR)) 1),(5,.int .i64 e),(24,.bool true)]) (H':=[some (⟨.pb [],0,none,0,true,false,0⟩:AM.Obj),some obE])
  ·generalize l.map pxR = R at *
   (refine ⟨0,?_⟩;simp [-getElem?_pos,go_sem,eqV,ah,he,heb])
  refine Run.bI ?_ (by simp)
  refine Run.cond (d:=true) (by simp [aJ,ay]) ?_
  apply Run.seq (fr':=[(2,.sl 2 0 0 0),(3,.int .i64 e)]) (H':=[some (⟨.pb [],0,none,0,true,false,0⟩:AM.Obj),some obE,some (⟨.pb [],0,none,0,true,false,0⟩:AM.Obj)])
  ·generalize l.map pxR = R at *
   (refine ⟨0,?_⟩;simp [-getElem?_pos,go_sem,eqV,ah,ak,rowOf,ES])
  ·exact ⟨0,rfl⟩
 have he:e = 0:=Classical.not_not.1 he
 subst he
 rw [if_neg (by simp)]
 simp only
 have hm:=hmay rfl
 apply aj.seq (fr':=[(0,.ro c (.pr 3 (l.map pxR)) 1),(5,.int .i64 0),(24,.bool false)]) (H':=[some (⟨.pb [],0,none,0,true,false,0⟩:AM.Obj),some obE])
 ·generalize l.map pxR = R at *
  (refine ⟨0,?_⟩;simp [-getElem?_pos,go_sem,eqV,ah])
 apply aj.seq (fr':=[(0,.ro c (.pr 3 (l.map pxR)) 1),(5,.int .i64 0),(24,.bool false)]) (H':=[some (⟨.pb [],0,none,0,true,false,0⟩:AM.Obj),some obE])
 ·exact Run.cond (d:=false) (by simp [aJ,ay]) ⟨0,rfl⟩
 have hF:=an9 [some (⟨.pb [],0,none,0,true,false,0⟩:AM.Obj),some obE]
 have hC1:=QC (H:=[some (⟨.pb [],0,none,0,true,false,0⟩:AM.Obj),some obE,some (flO flL),some (flO flD)]) (a:=.sl 2 0 288 0) (l:=flL) (by have:=QB (H:=[some (⟨.pb [],0,none,0,true,false,0⟩:AM.Obj),some obE,some (flO flL),some (flO flD)]) (o:=2) (l:=flL) rfl;rwa [rZ] at this) aa6
 have hC2:=QC (H:=[some (⟨.pb [],0,none,0,true,false,0⟩:AM.Obj),some obE,some (flO flL),some (flO flD),lI 288 lcL]) (a:=.sl 3 0 32 0) (l:=flD) (by have:=QB (H:=[some (⟨.pb [],0,none,0,true,false,0⟩:AM.Obj),some obE,some (flO flL),some (flO flD),lI 288 lcL]) (o:=3) (l:=flD) rfl;rwa [Ef] at this) aa7
 rw [rZ] at hC1
 rw [Ef] at hC2
 simp only [atV,atY,aum,at6] at hF hC1 hC2
 change evT X _ _ _ = some (_,[_,_,_,_,lI 288 lcL]) at hC1
 change evT X _ _ _ = some (_,[_,_,_,_,_,lI 32 dcL]) at hC2
 have hV:FxV [some (⟨.pb [],0,none,0,true,false,0⟩:AM.Obj),some obE,some (flO flL),some (flO flD),lI 288 lcL,lI 32 dcL,some (jy ⟨0,[]⟩ (.ro 0 .pn 0) 0)] 2 3 4 5 6 none ⟨0,[]⟩:=⟨rfl,rfl,rfl,rfl,⟨⟨_,0,.inl rfl,rfl,rfl,0,.inl rfl,rfl⟩,fun a h=>by cases h⟩,by omega,fun a h=>(by cases h),rfl⟩
 generalize lI 288 lcL = r8 at *
 generalize lI 32 dcL = r10 at *
 generalize some (flO flL) = r6 at *
 generalize some (flO flD) = r7 at *
 generalize some (⟨.pb [],0,none,0,true,false,0⟩:AM.Obj) = r0 at *
 apply aj.seq (fr':=[(0,.ro c (.pr 3 (l.map pxR)) 1),(6,.sl 2 0 288 0),(7,.sl 3 0 32 0)]) (H':=[r0,some obE,r6,r7])
 ·generalize l.map pxR = R at *
  (refine ⟨0,?_⟩;simp [-getElem?_pos,go_sem,eqV,ah,hF,ak])
 apply aj.seq (fr':=[(0,.ro c (.pr 3 (l.map pxR)) 1),(6,.sl 2 0 288 0),(7,.sl 3 0 32 0),(8,.sl 4 0 288 0)]) (H':=[r0,some obE,r6,r7,r8])
 ·generalize l.map pxR = R at *
  (refine ⟨0,?_⟩;simp [-getElem?_pos,go_sem,eqV,ah,hC1,ak])
 apply aj.seq (fr':=[(0,.ro c (.pr 3 (l.map pxR)) 1),(6,.sl 2 0 288 0),(7,.sl 3 0 32 0),(8,.sl 4 0 288 0),(10,.sl 5 0 32 0)]) (H':=[r0,some obE,r6,r7,r8,r10])
 ·generalize l.map pxR = R at *
  (refine ⟨0,?_⟩;simp [-getElem?_pos,go_sem,eqV,ah,hC2,ak])
 apply aj.seq (fr':=[(0,.ro c (.pr 3 (l.map pxR)) 1),(6,.sl 2 0 288 0),(7,.sl 3 0 32 0),(8,.sl 4 0 288 0),(10,.sl 5 0 32 0),(12,.ptr 6 0 0 0)]) (H':=[r0,some obE,r6,r7,r8,r10,some (jy ⟨0,[]⟩ (.ro 0 .pn 0) 0)])
 ·simp only [jy]
  generalize l.map pxR = R at *
  (refine ⟨0,?_⟩;simp [-getElem?_pos,go_sem,eqV,ah,an8,ak])
 clear hC1 hC2 hF hEx
 generalize [r0,some obE,r6,r7,r8,r10,some (jy ⟨0,[]⟩ (.ro 0 .pn 0) 0)] = E0 at *
 obtain ⟨E1,oa1,g1,g2,g3⟩:=oh (x:=1) (I:=1) (n:=1) rfl hV.wr hV.ok (by simp) (by omega)
 have hV1:=hV.step g2 g3 (eu hV.ok 1).1
 apply aj.seq (fr':=[(0,.ro c (.pr 3 (l.map pxR)) 1),(6,.sl 2 0 288 0),(7,.sl 3 0 32 0),(8,.sl 4 0 288 0),(10,.sl 5 0 32 0),(12,.ptr 6 0 0 0)]) (H':=E1)
 ·generalize l.map pxR = R at *
  (refine ⟨0,?_⟩;simp [-getElem?_pos,go_sem,eqV,ah,g1])
 have k1:=(eu (x:=1) hV.ok 1).2
 obtain ⟨E2,oa2,g4,g5,g6⟩:=oh (x:=1) (I:=2) (n:=2) rfl hV1.wr hV1.ok (by rw [k1];simp) (by omega)
 have hV2:=hV1.step g5 g6 (eu hV1.ok 2).1
 have k2:=(eu (x:=1) hV1.ok 2).2
 apply aj.seq (fr':=[(0,.ro c (.pr 3 (l.map pxR)) 1),(6,.sl 2 0 288 0),(7,.sl 3 0 32 0),(8,.sl 4 0 288 0),(10,.sl 5 0 32 0),(12,.ptr 6 0 0 0)]) (H':=E2)
 ·generalize l.map pxR = R at *
  (refine ⟨0,?_⟩;simp [-getElem?_pos,go_sem,eqV,ah,g4])
 apply aj.assoc
 apply aj.seq (fr':=oz 2 3 4 5 6 c l 0) (H':=E2)
 ·have hll:(l.map pxR).length = l.length:=by simp
  simp only [oz]
  generalize l.map pxR = R at *
  generalize l.length = N at *
  (refine ⟨0,?_⟩;simp [-getElem?_pos,go_sem,eqV,ah,hll])
 have hk3:(cZ (cZ ⟨0,[]⟩ 1 1) 1 2).k≤100:=by rw [k2,k1];simp
 apply aj.andThen (piece (Y0 (m:=m) (c:=c) hV2 hk3 hl hm) _ rfl)
 rintro fr E3 ⟨oa3,rfl,hV3⟩
 have hk4:=(ER l _ hV2.ok hm).2
 obtain ⟨E4,oa4,hV4,aoa⟩:=aa8 (m:=m) (c:=c) (i:=l.length) (l:=l) (tl:=[(49,.bool false)]) hV3 (by omega)
 apply aj.seq (piece aoa _ rfl)
 have hne:=YZ hm
 unfold Bd at hne ⊢
 obtain ⟨a,g,ob,q1,q2,aob⟩:=aa9 (m:=m) hV4 hne
 generalize (jO (l.foldl pxW (cZ (cZ ⟨0,[]⟩ 1 1) 1 2)) lcL flL 256).o = B at *
 apply aj.seq (piece aob _ rfl)
 exact aj.of (o:=⟨.ret,[(2,.sl a 0 B.length g),(3,.int .i64 0)],E4⟩) ⟨0,rfl⟩ ⟨rfl,a,g,ob,rfl,rfl,q1,q2⟩
theorem Sr {H:AM.Heap} {a:AV} (ha:fC H a = some (.pr 3 (l.map pxR))) (hl:l.length≤2000):∃ ob,Rw (.pb (mM l).1) 0 ob∧evT X 42 [a] H = some (.tup [.sl H.length 0 (mM l).1.length 0,.int .i64 (mM l).2],H ++ [some ob]):=by
 obtain ⟨c,x,hx⟩:=gV (C:=X) (f:=42) (i:=0) rfl ha (dW 1)
 obtain ⟨code,hc,⟨out,⟨ho,a2,g,ob,h2,h3,h4,hw⟩,hrun⟩⟩:=Ox (m:=0) (c:=c) (l:=l) hl
 obtain ⟨ob',q1,q2⟩:=Ev1.KQ (C:=X) (H:=H) (bJ X) (n:=(mM l).1.length) (l:=(mM l).1) (rest:=[.int .i64 (mM l).2]) Try.func42 hc hx rfl (by simp [dn]) rfl rfl rfl (by
  rw [adE]
  refine ⟨out,⟨ho,a2,g,ob,?_,h4,hw⟩,hrun⟩
  show aP X out.fr out.H [.tmp 2,.tmp 3] = _
  simp [aP,h2,h3])
 exact ⟨ob',q1,dQ (by simpa [aN,dP] using q2)⟩
end
def vI (b:List UInt8):Ws:=cZ (cZ ⟨8,(cZ ⟨0,[]⟩ 1 3).o⟩ (b.length:Nat) 16) (-(b.length:Int) - 1) 16
def jT (b:List UInt8):List UInt8:=(vI b).o ++ b
theorem f13:(cZ ⟨0,[]⟩ 1 3) = ⟨3,[1]⟩:=by kernel_rfl
theorem aoc:mJ X 88 [] = some (.agg (.pc [.ro 0 .pn 0,.int .i64 0])):=by kernel_rfl
theorem ae6:bZ X 5 = .pb []:=by kernel_rfl
theorem aod {L:Nat} (h:L≤65535):IntKind.i64.wrap ((AM.bits .i64 (if IntKind.i64.signed = true then -1 else 9223372036854775807) ^^^ AM.bits .i64 (L:Int)).toNat:Nat) = -(L:Int) - 1:=by
 have e1:AM.bits .i64 (if IntKind.i64.signed = true then -1 else 9223372036854775807) = BitVec.allOnes 64:=by kernel_rfl
 have e2:(BitVec.ofInt 64 (L:Int)).toNat = L:=by
  rw [av9]
  show ((L:Int) % 18446744073709551616).toNat = L
  omega
 have e3:(AM.bits .i64 (if IntKind.i64.signed = true then -1 else 9223372036854775807) ^^^ AM.bits .i64 (L:Int)).toNat = 18446744073709551615 - L:=by
  rw [e1]
  show (BitVec.allOnes 64 ^^^ BitVec.ofInt 64 (L:Int)).toNat = _
  rw [BitVec.allOnes_xor,BitVec.toNat_not,e2]
 rw [e3]
 have e4:((18446744073709551615 - L:Nat):Int) = 18446744073709551615 - (L:Int):=by omega
 rw [e4]
 unfold IntKind.wrap
 simp [IntKind.bits,IntKind.signed]
 omega
section
variable {c:Nat} {b:List UInt8} {E:AM.Heap} {oa:Option Nat} {s:Ws}
def uK (c:Nat) (b:List UInt8):AM.Frame:=[(0,.ro c (.pb b) 1),(3,.ptr 1 0 0 0),(4,.int .i64 (b.length:Nat)),(5,.int .i64 1)]
theorem ae7 {m:Nat} (h:WrV 0 E 1 oa s) (hne:s.o ≠ []) (hl:s.o.length≤1000000):∃ E',WrV 0 E' 1 oa ⟨s.o.length * 8,s.o⟩∧∃ code,((Try.f44.body).bind (aB [1,1,0,0,0,1,1,1,1,0])) = some code∧Run X (evT X) 44 m code (uK c b) E ⟨.normal,uK c b,E'⟩:=by
 obtain ⟨⟨vo,τ,a1,h0,ho⟩,hn⟩:=id h
 cases oa with
 | none=>exact absurd ho.1 hne
 | some a =>
  refine ⟨AM.upd E 1 (some (jy ⟨s.o.length * 8,s.o⟩ vo τ)),WrV.set hn a1 (dR h0) ho,_,rfl,?_⟩
  obtain ⟨g,τ2,ob,hτ2,rfl,h3,h4⟩:=ho
  have hg:=h4.g
  have w1:IntKind.i64.wrap ((s.o.length:Int) * 8) = ((s.o.length * 8:Nat):Int):=by rw [wrap_i64 (by omega) (by omega)];omega
  simp only [jy,uK] at h0 ⊢
  generalize s.o.length * 8 = k8 at *
  generalize s.o.length = N at *
  generalize b.length = L at *
  (refine ⟨0,?_⟩;simp [-getElem?_pos,go_sem,eqV,ah,h0,h3,hg,w1])
theorem abb {m:Nat} (h:WrV 0 E 1 oa s) (hne:s.o ≠ []) (hl:s.o.length≤1000000):∃ E',WrV 0 E' 1 oa ⟨s.o.length * 8,s.o⟩∧∃ code,((Try.f44.body).bind (aB [1,1,0,0,0,1,1,1,1,1,1,1,1,0])) = some code∧Run X (evT X) 44 m code (uK c b) E ⟨.normal,uK c b,E'⟩:=by
 obtain ⟨⟨vo,τ,a1,h0,ho⟩,hn⟩:=id h
 cases oa with
 | none=>exact absurd ho.1 hne
 | some a =>
  refine ⟨AM.upd E 1 (some (jy ⟨s.o.length * 8,s.o⟩ vo τ)),WrV.set hn a1 (dR h0) ho,_,rfl,?_⟩
  obtain ⟨g,τ2,ob,hτ2,rfl,h3,h4⟩:=ho
  have hg:=h4.g
  have w1:IntKind.i64.wrap ((s.o.length:Int) * 8) = ((s.o.length * 8:Nat):Int):=by rw [wrap_i64 (by omega) (by omega)];omega
  simp only [jy,uK] at h0 ⊢
  generalize s.o.length * 8 = k8 at *
  generalize s.o.length = N at *
  generalize b.length = L at *
  (refine ⟨0,?_⟩;simp [-getElem?_pos,go_sem,eqV,ah,h0,h3,hg,w1])
theorem abd {m:Nat} (h:WrV 0 E 1 oa s) (hne:s.o ≠ []) (hl:s.o.length≤1000000) (hb:b.length≤65535):∃ E',WrV 0 E' 1 oa ⟨s.k,s.o ++ b⟩∧∃ code,((Try.f44.body).bind (aB [1,1,0,0,0,1,1,1,1,1,1,1,0])) = some code∧Run X (evT X) 44 m code (uK c b) E ⟨.normal,uK c b,E'⟩:=by
 obtain ⟨⟨vo,τ,a1,h0,ho⟩,hn⟩:=id h
 cases oa with
 | none=>exact absurd ho.1 hne
 | some a =>
  obtain ⟨g,τ2,ob,hτ2,rfl,h3,h4⟩:=ho
  obtain ⟨ob',w1,w2⟩:=zG (C:=X) (T:=22) (e:=5) (src:=.ro (if c = 0 then 0 else 2) (.pb b) 1) (m:=b) nR DN qx bytes5 yh h3 h4 (.inl (by simp [iC,jW,mO])) (by omega)
  have h0':(upd E a (some ob'))[1]? = some (some (jy s (.sl a 0 s.o.length g) τ)):=qO h0 (hn a rfl)
  refine ⟨AM.upd (upd E a (some ob')) 1 (some (jy ⟨s.k,s.o ++ b⟩ (.sl a 0 (s.o.length + b.length) (g + 1)) τ)),WrV.set hn a1 (dR h0') ⟨g + 1,τ2,ob',hτ2,by simp,setAt h3,w1⟩,_,rfl,?_⟩
  have ht:b.take b.length = b:=auU
  have hz:gG (.pb b) 0 b.length = some (.pb b):=by simp [gG]
  simp only [jy,uK] at h0 h0' ⊢
  generalize upd E a (some ob') = E1 at *
  generalize s.o.length + b.length = N2 at *
  generalize s.o.length = N at *
  generalize hL:b.length = L at *
  (refine ⟨0,?_⟩;simp [-getElem?_pos,go_sem,eqV,ah,h0,h0',w2,jB,bound,gG,hL,ht,hz])
theorem Sv (s:Ws) (x:Int):s.o.length≤(qc s x).o.length:=by
 unfold qc
 simp only [av5]
 split <;> simp
theorem vZ (s:Ws) (x:Int):∀ n,s.o.length≤(cZ s x n).o.length
 | 0=>atG _
 | n + 1=>auN (vZ s x n) (Sv _ _)
theorem Ju {m:Nat} (hb:b.length≤65535):∃ code,Try.f44.body = some code∧aj (nK fun fr E=>∃ a g ob,ay fr 2 = .sl a 0 (jT b).length g∧E[a]? = some (some ob)∧Rw (.pb (jT b)) g ob) X (evT X) 44 m code [(0,.ro c (.pb b) 1)] []:=by
 refine ⟨_,rfl,?_⟩
 apply aj.seq (fr':=[(0,.ro c (.pb b) 1)]) (H':=[some (⟨.pb [],0,none,0,true,false,0⟩:AM.Obj)])
 ·(refine ⟨0,?_⟩;simp [-getElem?_pos,go_sem,eqV,ah,ak,rowOf,ae6])
 apply aj.seq (fr':=[(0,.ro c (.pb b) 1),(3,.ptr 1 0 0 0)]) (H':=[some (⟨.pb [],0,none,0,true,false,0⟩:AM.Obj),some (jy ⟨0,[]⟩ (.ro 0 .pn 0) 0)])
 ·simp only [jy]
  (refine ⟨0,?_⟩;simp [-getElem?_pos,go_sem,eqV,ah,aoc,ak])
 have hV:WrV 0 [some (⟨.pb [],0,none,0,true,false,0⟩:AM.Obj),some (jy ⟨0,[]⟩ (.ro 0 .pn 0) 0)] 1 none ⟨0,[]⟩:=⟨⟨_,0,.inl rfl,rfl,rfl,0,.inl rfl,rfl⟩,fun a h=>by cases h⟩
 generalize [some (⟨.pb [],0,none,0,true,false,0⟩:AM.Obj),some (jy ⟨0,[]⟩ (.ro 0 .pn 0) 0)] = E0 at *
 have hI:(b.length:Int)≤65535:=by omega
 refine aj.blk ?_ (fun o ho=>by rw [ho.1];simp)
 refine aj.kQ (I:=fun k fr E=>k = 0∧fr = [(0,.ro c (.pb b) 1),(3,.ptr 1 0 0 0)]∧E = E0) ?_ (k:=0) ⟨rfl,rfl,rfl⟩
 rintro k fr E ⟨rfl,rfl,rfl⟩
 suffices hT:aj (nK fun fr E=>∃ a g ob,ay fr 2 = .sl a 0 (jT b).length g∧E[a]? = some (some ob)∧Rw (.pb (jT b)) g ob) X (evT X) 44 m _ [(0,.ro c (.pb b) 1),(3,.ptr 1 0 0 0)] E from hT.mono fun o ho=>.inr ⟨by rw [ho.1];simp,ho⟩
 refine aj.blk ?_ (fun o ho=>by rw [ho.1];simp)
 apply aj.seq (fr':=[(0,.ro c (.pb b) 1),(3,.ptr 1 0 0 0),(4,.int .i64 (b.length:Nat))]) (H':=E)
 ·have hI2:¬ (65535:Int) < (b.length:Int):=by omega
  have hI3:¬ 65535 < b.length:=by omega
  generalize hL:b.length = L at *
  (refine ⟨0,?_⟩;simp [-getElem?_pos,go_sem,eqV,ah,kE,ak,hI,hI2,hI3,hL])
 apply aj.seq (fr':=[(0,.ro c (.pb b) 1),(3,.ptr 1 0 0 0),(4,.int .i64 (b.length:Nat)),(5,.int .i64 0)]) (H':=E)
 ·generalize hL:b.length = L at *
  (refine ⟨0,?_⟩;simp [-getElem?_pos,go_sem,eqV,ah,ak])
 apply aj.assoc
 apply aj.seq (fr':=[(0,.ro c (.pb b) 1),(3,.ptr 1 0 0 0),(4,.int .i64 (b.length:Nat)),(5,.int .i64 0),(14,.bool true)]) (H':=E)
 ·generalize hL:b.length = L at *
  (refine ⟨0,?_⟩;simp [-getElem?_pos,go_sem,eqV,ah,hL])
 apply aj.seq (fr':=uK c b) (H':=E)
 ·refine Run.cond (d:=true) (by simp [aJ,ay]) ?_
  simp only [uK]
  generalize hL:b.length = L at *
  (refine ⟨0,?_⟩;simp [-getElem?_pos,go_sem,eqV,ah,ak])
 obtain ⟨E1,oa1,g1,g2,g3⟩:=oh (x:=1) (I:=3) (n:=3) rfl hV rfl (by simp) (by omega)
 apply aj.seq (fr':=uK c b) (H':=E1)
 ·simp only [uK]
  generalize hL:b.length = L at *
  (refine ⟨0,?_⟩;simp [-getElem?_pos,go_sem,eqV,ah,g1])
 have ho1:(cZ ⟨0,[]⟩ 1 3).o = [1]:=by rw [f13]
 obtain ⟨E2,hV2,hr7⟩:=ae7 (m:=m) (c:=c) (b:=b) g2 (by rw [ho1];simp) (by rw [ho1];simp)
 apply aj.seq (piece hr7 _ rfl)
 have e8:(cZ ⟨0,[]⟩ 1 3).o.length * 8 = 8:=by rw [ho1];rfl
 rw [e8] at hV2
 have hok2:jD ⟨8,(cZ ⟨0,[]⟩ 1 3).o⟩:=by unfold jD;rw [ho1];rfl
 obtain ⟨E3,oa3,g4,g5,g6⟩:=oh (x:=(b.length:Nat)) (I:=16) (n:=16) rfl hV2 hok2 (by simp) (by omega)
 have k3:=eu (x:=(b.length:Nat)) hok2 16
 apply aj.seq (fr':=uK c b) (H':=E3)
 ·simp only [uK]
  generalize hL:b.length = L at *
  (refine ⟨0,?_⟩;simp [-getElem?_pos,go_sem,eqV,ah,g4])
 obtain ⟨E4,oa4,g7,g8,g9⟩:=oh (x:=-(b.length:Int) - 1) (I:=16) (n:=16) rfl g5 k3.1 (by rw [k3.2];simp) (by omega)
 have k4:=eu (x:=-(b.length:Int) - 1) k3.1 16
 apply aj.seq (fr':=uK c b) (H':=E4)
 ·simp only [uK]
  have wx:IntKind.i64.wrap (-(b.length:Int) - 1) = -(b.length:Int) - 1:=by rw [wrap_i64 (by omega) (by omega)]
  have wx2:IntKind.i64.wrap (-1 - (b.length:Int)) = -(b.length:Int) - 1:=by rw [wrap_i64 (by omega) (by omega)];omega
  have wn:=aod hb
  simp only [go_sem] at wn
  generalize hL:b.length = L at *
  (refine ⟨0,?_⟩;simp [-getElem?_pos,go_sem,eqV,ah,g7,wn])
 have ae8:1≤(vI b).o.length:=by
  have m1:=vZ ⟨8,(cZ ⟨0,[]⟩ 1 3).o⟩ (b.length:Nat) 16
  have m2:=vZ (cZ ⟨8,(cZ ⟨0,[]⟩ 1 3).o⟩ (b.length:Nat) 16) (-(b.length:Int) - 1) 16
  have m0:(cZ ⟨0,[]⟩ 1 3).o.length = 1:=by rw [ho1];rfl
  unfold vI
  simp only at m1 m2
  omega
 have hk5:(vI b).o.length = 5:=by
  have:=k4.1
  unfold jD at this
  unfold vI
  rw [this,k4.2,k3.2]
  rfl
 have hne:(vI b).o ≠ []:=fun e=>by rw [e] at ae8;simp at ae8
 have g8':WrV 0 E4 1 oa4 (vI b):=g8
 obtain ⟨E5,hV5,aoe⟩:=abd (m:=m) (c:=c) (b:=b) g8' hne (by omega) hb
 apply aj.seq (piece aoe _ rfl)
 obtain ⟨E6,hV6,aof⟩:=abb (m:=m) (c:=c) (b:=b) hV5 (by simp [hne]) (by simp;omega)
 apply aj.seq (piece aof _ rfl)
 simp only at hV6
 have Sz:∃ v,∃ code,((Try.f44.body).bind (aB [1,1,0,0,0,1,1,1,1,1,1,1,1,1,0])) = some code∧Run X (evT X) 44 m code (uK c b) E6 ⟨.normal,[(0,v),(3,.ptr 1 0 0 0),(5,.int .i64 1)],E6⟩:=by
  refine ⟨.ro (if c = 0 then 0 else c) (.pb []) 1,_,rfl,?_⟩
  have hd:b.drop b.length = []:=avl (atG _)
  simp only [uK]
  generalize hL:b.length = L at *
  (refine ⟨0,?_⟩;simp [-getElem?_pos,go_sem,eqV,ah,jB,bound,gG,hL,hd,ak])
 obtain ⟨v12,Sz⟩:=Sz
 apply aj.seq (piece Sz _ rfl)
 apply aj.seq (fr':=[(0,v12),(3,.ptr 1 0 0 0),(58,.bool true)]) (H':=E6)
 ·(refine ⟨0,?_⟩;simp [-getElem?_pos,go_sem,eqV,ah])
 refine aj.yu (by simp [aJ,ay]) ?_
 obtain ⟨⟨vo,τ,a1,h0,ho⟩,hn⟩:=id hV6
 cases oa4 with
 | none=>exact absurd ho.1 (by simp [hne])
 | some a =>
  obtain ⟨g,τ2,ob,hτ2,rfl,h3,h4⟩:=ho
  have ht:τ2 = 0:=hτ2.elim id id
  have hst:(vI b).o ++ b = jT b:=rfl
  simp only [hst] at h0 h3 h4
  refine aj.of (o:=⟨.ret,[(2,.sl a 0 (jT b).length g)],E6⟩) ?_ ⟨rfl,a,g,ob,rfl,h3,⟨h4.p,h4.g,h4.row,h4.ids,by rw [h4.tg,ht]⟩⟩
  refine ⟨0,?_⟩
  simp only [jy] at h0
  generalize (jT b).length = N at *
  simp [-getElem?_pos,go_sem,eqV,ah,h0,ak]
theorem Oy {H:AM.Heap} {a:AV} (ha:fC H a = some (.pb b)) (hb:b.length≤65535):∃ ob,Rw (.pb (jT b)) 0 ob∧evT X 44 [a] H = some (.sl H.length 0 (jT b).length 0,H ++ [some ob]):=by
 obtain ⟨c,x,hx⟩:=gV (C:=X) (f:=44) (i:=0) rfl ha (dW 1)
 obtain ⟨code,hc,⟨out,⟨ho,a2,g,ob,h2,h4,hw⟩,hrun⟩⟩:=Ju (m:=0) (c:=c) hb
 obtain ⟨ob',q1,q2⟩:=Ev1.KQ (C:=X) (H:=H) (bJ X) (n:=(jT b).length) (l:=jT b) (rest:=[]) Try.func44 hc hx rfl (by simp [dn]) rfl rfl rfl (by
  rw [adG]
  refine ⟨out,⟨ho,a2,g,ob,?_,h4,hw⟩,hrun⟩
  show aP X out.fr out.H [.tmp 2] = _
  simp [aP,h2])
 exact ⟨ob',q1,dQ q2⟩
end
def GH (x:Pc):Px:=⟨(x.len:Nat),(x.dist:Nat),x.byte⟩
theorem abe (L:List Pc):(L.map GH).map pxR = L.map pcR:=by
 rw [au4]
 rfl
def sS (b:List UInt8):List Px:=(qE b b.length [] 0).map GH
def gK (b:List UInt8):List UInt8:=if (jT b).length < (mM (sS b)).1.length then jT b else (mM (sS b)).1
theorem ET (b:List UInt8):∀ (f:Nat) (M:Pls) (p:Nat),(qE b f M p).length≤f
 | 0,_,_=>atG _
 | f + 1,M,p=>by
  unfold qE
  split
  ·have:=ET b f (Jv b M p (max 1 (fA b M p).len)) (p + max 1 (fA b M p).len)
   simp
   omega
  ·simp
theorem abf {H:AM.Heap} {o g es:Nat} {ob:AM.Obj} {l:List AV} (ho:H[o]? = some (some ob)) (hw:Rw (.pr es l) g ob):fC H (.sl o 0 l.length g) = some (.pr es l):=by
 simp [fC,live,ho,hw.g,hw.ids,hw.p,gG]
section
variable {c:Nat} {b:List UInt8}
theorem Jw {m:Nat} (hb:b.length≤1400):∃ code,Try.f35.body = some code∧aj (nK fun fr E=>∃ a g ob,ay fr 2 = .sl a 0 (gK b).length g∧E[a]? = some (some ob)∧Rw (.pb (gK b)) g ob) X (evT X) 35 m code [(0,.ro c (.pb b) 1)] []:=by
 refine ⟨_,rfl,?_⟩
 apply aj.seq (fr':=[(0,.ro c (.pb b) 1)]) (H':=[some (⟨.pb [],0,none,0,true,false,0⟩:AM.Obj)])
 ·(refine ⟨0,?_⟩;simp [-getElem?_pos,go_sem,eqV,ah,ak,rowOf,ae6])
 obtain ⟨ob1,w1,e1⟩:=SA (H:=[some (⟨.pb [],0,none,0,true,false,0⟩:AM.Obj)]) (a:=.ro c (.pb b) 1) (b:=b) rfl hb
 have hlen:=ET b b.length [] 0
 obtain ⟨ob2,w2,e2⟩:=Sr (H:=[some (⟨.pb [],0,none,0,true,false,0⟩:AM.Obj),some ob1]) (a:=.sl 1 0 (qE b b.length [] 0).length 0) (l:=sS b) (by
  unfold sS
  rw [abe]
  have:=abf (H:=[some (⟨.pb [],0,none,0,true,false,0⟩:AM.Obj),some ob1]) (o:=1) rfl w1
  rwa [auJ] at this) (by unfold sS;rw [auJ];omega)
 obtain ⟨ob3,w3,e3⟩:=Oy (H:=[some (⟨.pb [],0,none,0,true,false,0⟩:AM.Obj),some ob1,some ob2]) (a:=.ro c (.pb b) 1) (b:=b) rfl (by omega)
 simp only [atV,atY,aum,at6] at e1 e2 e3
 unfold gK
 have g2:=w2.g;have g3:=w3.g
 generalize hr0:some (⟨.pb [],0,none,0,true,false,0⟩:AM.Obj) = r0 at *
 apply aj.seq (fr':=[(0,.ro c (.pb b) 1),(3,.sl 2 0 (mM (sS b)).1.length 0)]) (H':=[r0,some ob1,some ob2])
 ·generalize (qE b b.length [] 0).length = N1 at *
  generalize (mM (sS b)).1.length = N2 at *
  generalize (mM (sS b)).2 = er at *
  (refine ⟨0,?_⟩;simp [-getElem?_pos,go_sem,eqV,ah,e1,e2,ak])
 apply aj.assoc
 apply aj.seq (fr':=[(3,.sl 2 0 (mM (sS b)).1.length 0),(5,.sl 3 0 (jT b).length 0)]) (H':=[r0,some ob1,some ob2,some ob3])
 ·generalize (mM (sS b)).1.length = N2 at *
  generalize (jT b).length = N3 at *
  (refine ⟨0,?_⟩;simp [-getElem?_pos,go_sem,eqV,ah,e3,ak])
 apply aj.assoc
 by_cases hlt:(jT b).length < (mM (sS b)).1.length
 ·rw [if_pos hlt]
  have hI:((jT b).length:Int) < ((mM (sS b)).1.length:Int):=by omega
  refine aj.of (o:=⟨.ret,[(2,.sl 3 0 (jT b).length 0)],[r0,some ob1,some ob2,some ob3]⟩) ?_ ⟨rfl,3,0,ob3,rfl,rfl,w3⟩
  generalize (mM (sS b)).1.length = N2 at *
  generalize (jT b).length = N3 at *
  apply Run.seq (fr':=[(3,.sl 2 0 N2 0),(5,.sl 3 0 N3 0),(18,.bool true)]) (H':=[r0,some ob1,some ob2,some ob3])
  ·(refine ⟨0,?_⟩;simp [-getElem?_pos,go_sem,eqV,ah,g2,g3,hI,hlt])
  ·refine ⟨0,?_⟩
   simp [-getElem?_pos,go_sem,eqV,ah,ak]
 ·rw [if_neg hlt]
  have hI:¬ ((jT b).length:Int) < ((mM (sS b)).1.length:Int):=by omega
  refine aj.of (o:=⟨.ret,[(2,.sl 2 0 (mM (sS b)).1.length 0)],[r0,some ob1,some ob2,some ob3]⟩) ?_ ⟨rfl,2,0,ob2,rfl,rfl,w2⟩
  generalize (mM (sS b)).1.length = N2 at *
  generalize (jT b).length = N3 at *
  apply Run.seq (fr':=[(3,.sl 2 0 N2 0),(5,.sl 3 0 N3 0),(18,.bool false)]) (H':=[r0,some ob1,some ob2,some ob3])
  ·(refine ⟨0,?_⟩;simp [-getElem?_pos,go_sem,eqV,ah,g2,g3,hI,hlt])
  ·refine ⟨0,?_⟩
   simp [-getElem?_pos,go_sem,eqV,ah,ak]
theorem Oz {H:AM.Heap} {a:AV} (ha:fC H a = some (.pb b)) (hb:b.length≤1400):∃ ob,Rw (.pb (gK b)) 0 ob∧evT X 35 [a] H = some (.sl H.length 0 (gK b).length 0,H ++ [some ob]):=by
 obtain ⟨c,x,hx⟩:=gV (C:=X) (f:=35) (i:=0) rfl ha (dW 1)
 obtain ⟨code,hc,⟨out,⟨ho,a2,g,ob,h2,h4,hw⟩,hrun⟩⟩:=Jw (m:=0) (c:=c) hb
 obtain ⟨ob',q1,q2⟩:=Ev1.KQ (C:=X) (H:=H) (bJ X) (n:=(gK b).length) (l:=gK b) (rest:=[]) Try.func35 hc hx rfl (by simp [dn]) rfl rfl rfl (by
  rw [adB]
  refine ⟨out,⟨ho,a2,g,ob,?_,h4,hw⟩,hrun⟩
  show aP X out.fr out.H [.tmp 2] = _
  simp [aP,h2])
 exact ⟨ob',q1,dQ q2⟩
end
theorem Gd.one:Gd ⟨8,[1]⟩:=⟨rfl,fun i hi=>by
 unfold iI
 have:1≤i / 8:=by have hi':8≤i:=hi;omega
 obtain ⟨q,hq⟩:∃ q,i / 8 = q + 1:=⟨i / 8 - 1,by omega⟩
 simp only [hq]
 simp⟩
theorem Y1 {B o:List UInt8} {x:UInt8} {j:Nat} (h:B[j]? = some x):gQ B 8 (8 * j) o = .ok (x.toNat:Nat) (8 * (j + 1)) o:=by
 have hj:j < B.length:=dR h
 have:=yL (b:=B) (k:=8 * j) (o:=o) (x:=((x.toNat:Nat):Int)) 8 (by omega) (fun i hi=>by
  unfold iI
  have e1:(8 * j + i) / 8 = j:=by omega
  have e2:(8 * j + i) % 8 = i:=by omega
  rw [e1,e2,atH,h]
  push_cast
  rfl)
 have hx:=x.toNat_lt
 have hm:((x.toNat:Nat):Int) % 2 ^ 8 = (x.toNat:Nat):=avi (by omega) (by omega)
 rw [this,hm]
 rfl
theorem QD {B b:List UInt8} {mo:Int} {d:Nat} (hB:∀ i,i < b.length→B[d + i]? = b[i]?) (hm:(b.length:Int)≤mo):∀ n i,i + n = b.length→rU (eP (gQ B 8) fun c=>qB mo (UInt8.ofNat c.toNat)) n (8 * (d + i)) (b.take i) = .ok () (8 * (d + b.length)) b
 | 0,i,h=>by
  have:i = b.length:=by omega
  subst this
  rw [auU]
  rfl
 | n + 1,i,h=>by
  have hi:i < b.length:=by omega
  have hx:b[i]? = some b[i]:=atB hi
  have h1:=Y1 (o:=b.take i) (x:=b[i]) ((hB i hi).trans hx)
  have h2:qB mo (UInt8.ofNat (((b[i].toNat:Nat):Int)).toNat) (8 * (d + i + 1)) (b.take i) = .ok () (8 * (d + i + 1)) (b.take (i + 1)):=by
   unfold qB
   rw [if_pos (by rw [auq];omega),avU,hx]
   simp
  unfold rU
  rw [dZ (by rw [dZ h1];exact h2)]
  exact QD hB hm n (i + 1) (by omega)
theorem yK {b:List UInt8}:Gd (vI b)∧(vI b).k = 40∧(vI b).o.length = 5:=by
 unfold vI
 rw [f13]
 obtain ⟨a1,_,_⟩:=fJ (x:=(b.length:Nat)) Gd.one 16
 obtain ⟨a2,_,_⟩:=fJ (x:=-(b.length:Int) - 1) a1 16
 have k1:=(eu (x:=(b.length:Nat)) Gd.one.ok 16).2
 have k2:=(eu (x:=-(b.length:Int) - 1) a1.ok 16).2
 have hk:(cZ (cZ ⟨8,[1]⟩ (b.length:Nat) 16) (-(b.length:Int) - 1) 16).k = 40:=by rw [k2,k1]
 have:=a2.ok
 unfold jD at this
 exact ⟨a2,hk,by rw [this,hk]⟩
theorem tZ (b:List UInt8):(jT b).length = b.length + 5:=by
 unfold jT
 rw [atQ,yK.2.2]
 omega
theorem Y2 {F:Nat} {b r:List UInt8} {mo:Int} (hb:b.length≤65535) (hm:(b.length:Int)≤mo) (hF:0 < F):∃ L,qC (jT b ++ r) mo F F 0 [] = .ok L (8 * (jT b).length) b:=by
 obtain ⟨F,rfl⟩:∃ g,F = g + 1:=⟨F - 1,by omega⟩
 obtain ⟨w1,w2,w3⟩:=yK (b:=b)
 have hlen:(jT b ++ r).length = 5 + b.length + r.length:=by rw [atQ,tZ];omega
 have hag:Agr (jT b ++ r) (vI b):=⟨by rw [w2];omega,fun i hi=>by
  unfold iI jT
  rw [auu,atH,atE (by rw [w2] at hi;omega),← atH]⟩
 have hB:∀ i,i < b.length→(jT b ++ r)[5 + i]? = b[i]?:=by
  intro i hi
  unfold jT
  rw [auu,atJ (by omega),w3,show 5 + i - 5 = i by omega,atE hi]
 have hs:vI b = cZ (cZ ⟨8,[1]⟩ (b.length:Nat) 16) (-(b.length:Int) - 1) 16:=by unfold vI;rw [f13]
 rw [tZ]
 generalize jT b ++ r = B at *
 rw [hs] at hag w2
 obtain ⟨a1,b1,_⟩:=fJ (x:=(b.length:Nat)) Gd.one 16
 obtain ⟨a2,b2,_⟩:=fJ (x:=-(b.length:Int) - 1) a1 16
 have x1:=Agr.ext b2 hag
 have x0:=Agr.ext b1 x1
 have bits:∀ i,i < 8→iI B i = iI [1] i:=x0.at'
 have r1:gQ B 1 0 [] = .ok 1 1 []:=by
  have:=yL (b:=B) (k:=0) (o:=[]) (x:=1) 1 (by omega) (fun i hi=>by
   have:i = 0:=by omega
   subst this
   rw [bits 0 (by omega)];rfl)
  exact this
 have r2:gQ B 2 1 [] = .ok 0 3 []:=by
  have:=yL (b:=B) (k:=1) (o:=[]) (x:=0) 2 (by omega) (fun i hi=>by
   have:i = 0∨i = 1:=by omega
   rcases this with rfl | rfl
   ·rw [bits 1 (by omega)];rfl
   ·rw [bits 2 (by omega)];rfl)
  exact this
 have r3:=pJ (o:=[]) Gd.one x1
 have r4:=pJ (o:=[]) a1 hag
 rw [w2] at r4
 have e3:((b.length:Nat):Int) % 2 ^ 16 = (b.length:Nat):=avi (by omega) (by omega)
 have e4:(-(b.length:Int) - 1) % 2 ^ 16 = 65535 - (b.length:Nat):=by
  show (-(b.length:Int) - 1) % 65536 = _
  omega
 rw [e3] at r3
 rw [e4] at r4
 have r5:=QD (B:=B) (d:=5) hB hm b.length 0 (by omega)
 have aog:Bv B mo 3 [] = .ok () (8 * (5 + b.length)) b:=by
  unfold Bv
  rw [dZ (show YD 3 [] = .ok () 8 [] from rfl),dZ r3,dZ r4,if_pos (by omega)]
  exact r5
 have hbl:BD B mo (F + 1) 0 [] = .ok ⟨0,true,0,b.length⟩ (8 * (5 + b.length)) b:=by
  unfold BD
  rw [dZ r1,dZ r2]
  have hk:BA B mo (F + 1) 0 = Bv B mo:=by unfold BA;rw [if_pos rfl]
  rw [hk,dZ aog]
  rfl
 rw [show 8 * (b.length + 5) = 8 * (5 + b.length) by omega]
 refine ⟨[⟨0,true,0,b.length⟩],?_⟩
 unfold qC
 rw [dZ hbl,if_pos rfl]
 rfl
theorem KR {b:List UInt8} {i k:Nat}:∀ (f n j:Nat),n≤j→j < eX b i k f n→b[i + j]? = b[k + j]?
 | 0,n,j,h1,h2=>by unfold eX at h2;omega
 | f + 1,n,j,h1,h2=>by
  unfold eX at h2
  split at h2
  ·rename_i hc
   by_cases hj:j = n
   ·subst hj;exact hc.2.2
   ·exact KR f (n + 1) j (by omega) h2
  ·omega
theorem HY (b:List UInt8) (p:Nat):∀ (L:List Nat) (s:Nat × Nat),(∀ x ∈ L,x < p)→ug b p L s = s∨∃ x ∈ L,p - x≤32768∧ug b p L s = (eX b x p 258 0,p - x)
 | [],s,_=>.inl rfl
 | y :: L,s,h=>by
  unfold ug
  split
  ·rename_i hc
   rcases HY b p L (if s.1 < eX b y p 258 0 then (eX b y p 258 0,p - y) else s) (fun x hx=>h x (auc _ hx)) with e | ⟨x,hx,h1,h2⟩
   ·rw [e]
    split
    ·exact .inr ⟨y,auz ..,hc.1,rfl⟩
    ·exact .inl rfl
   ·exact .inr ⟨x,auc _ hx,h1,h2⟩
  ·exact .inl rfl
theorem Y3 {b:List UInt8} {p d:Nat} (hd:1≤d) (hdp:d≤p):∀ n,p + n≤b.length→(∀ j,j < n→b[p - d + j]? = b[p + j]?)→kY d n (b.take p) = b.take (p + n):=by
 suffices H:∀ n q,p≤q→q + n≤b.length→(∀ j,p≤j→j < q + n→b[j - d]? = b[j]?)→kY d n (b.take q) = b.take (q + n) by
  intro n h1 h2
  exact H n p (atG _) h1 fun j hj hj2=>by
   have:=h2 (j - p) (by omega)
   rw [show p - d + (j - p) = j - d by omega,show p + (j - p) = j by omega] at this
   exact this
 intro n
 induction n with
 | zero=>intro q _ _ _;rfl
 | succ n ih =>
  intro q hq h1 h2
  unfold kY
  have hx:b[q]? = some b[q]:=atB (by omega)
  have e:(b.take q).getD ((b.take q).length - d) 0 = b[q]:=by
   rw [auq,auR (by omega),atH,auC,if_pos (by omega),h2 q hq (by omega),hx]
   rfl
  rw [e]
  have e2:b.take q ++ [b[q]] = b.take (q + 1):=by rw [avU,hx];rfl
  rw [e2,ih (q + 1) (by omega) (by omega) fun j hj hj2=>h2 j hj (by omega),show q + 1 + n = q + (n + 1) by omega]
theorem OA {b:List UInt8} {M:Pls} {p:Nat} (hM:BG M p) (hp:p < b.length):(3≤(fA b M p).len∧(fA b M p).len≤258∧1≤(fA b M p).dist∧(fA b M p).dist≤32768∧(fA b M p).dist≤p∧(fA b M p).byte = 0∧kY (fA b M p).dist (fA b M p).len (b.take p) = b.take (p + (fA b M p).len))∨(fA b M p = ⟨0,0,b.getD p 0⟩):=by
 have hfit:=xE (M:=M) hp
 unfold fA at hfit ⊢
 by_cases h3:3≤(lU b M p).1
 ·rw [if_pos h3] at hfit ⊢
  left
  simp only at hfit ⊢
  have OB:=(KT (M:=M) (Nat.le_of_lt hp)).2
  unfold lU at h3 hfit OB ⊢
  split at h3
  ·rename_i hp3
   rw [if_pos hp3] at hfit OB ⊢
   have hL:∀ x ∈ (lkM M (pK b p)).reverse,x < p:=by
    intro x hx
    rw [List.mem_reverse] at hx
    unfold lkM at hx
    split at hx
    ·rename_i j hj
     obtain ⟨_,l,hl⟩:=zL hj
     rw [avI] at hl
     rw [atH,hl] at hx
     exact (hM.2 _ (atL hl)).2.2 x hx
    ·cases hx
   rcases HY b p _ (0,0) hL with e | ⟨x,hx,h1,e⟩
   ·rw [e] at h3;simp at h3
   ·have hxp:=hL x hx
    rw [e] at h3 hfit OB ⊢
    simp only at h3 hfit OB ⊢
    refine ⟨h3,OB,by omega,h1,by omega,trivial,?_⟩
    refine Y3 (by omega) (by omega) _ (by omega) fun j hj=>?_
    rw [show p - (p - x) + j = x + j by omega]
    exact KR 258 0 j (by omega) hj
  ·simp at h3
 ·rw [if_neg h3]
  exact .inr rfl
theorem Y4 (y:UInt8) (L:List Px) (o:List UInt8):kF (GH ⟨0,0,y⟩ :: L) o = kF L (o ++ [y]):=by
 conv=>lhs;unfold kF
 have hm:nN (GH ⟨0,0,y⟩) = true:=by unfold nN GH;rfl
 have h0:(GH ⟨0,0,y⟩).len = 0:=rfl
 rw [if_neg (by rw [hm];simp),if_pos h0]
 rfl
theorem KU {b:List UInt8}:∀ (f:Nat) (M:Pls) (p:Nat),BG M p→p≤b.length→b.length≤p + f→kF ((qE b f M p).map GH) (b.take p) = (b,0)
 | 0,M,p,hM,hp,hf=>by
  have:p = b.length:=by omega
  subst this
  unfold qE
  rw [auU]
  rfl
 | f + 1,M,p,hM,hp,hf=>by
  unfold qE
  by_cases hlt:p < b.length
  ·rw [if_pos hlt,aua]
   have hmx:1≤max 1 (fA b M p).len:=Nat.le_max_left ..
   have ih:=KU f (Jv b M p (max 1 (fA b M p).len)) (p + max 1 (fA b M p).len) (hM.up _) (xE hlt) (by omega)
   generalize qE b f (Jv b M p (max 1 (fA b M p).len)) (p + max 1 (fA b M p).len) = R at *
   rcases OA hM hlt with ⟨h1,h2,h3,h4,h5,h6,h7⟩ | h
   ·have hmax:max 1 (fA b M p).len = (fA b M p).len:=by omega
    rw [hmax] at ih
    unfold kF
    have hmay:nN (GH (fA b M p)) = true:=by
     unfold nN GH
     simp only
     rw [if_neg (by omega),h6]
     simp
     omega
    rw [if_neg (by simp [hmay])]
    unfold GH
    simp only
    rw [if_neg (by omega),if_neg (by rw [auq];omega)]
    simp only [auy]
    rw [h7]
    exact ih
   ·rw [h] at ih ⊢
    have hx:b[p]? = some b[p]:=atB hlt
    have hg:b.getD p 0 = b[p]:=by rw [atH,hx];rfl
    rw [Y4,hg]
    have e2:b.take p ++ [b[p]] = b.take (p + 1):=by rw [avU,hx];rfl
    rw [e2]
    exact ih
  ·rw [if_neg hlt]
   have:p = b.length:=by omega
   subst this
   rw [auU]
   rfl
theorem G9 (b:List UInt8):kF (sS b) [] = (b,0):=KU b.length [] 0 ⟨atG _,fun y hy=>by cases hy⟩ (auL _) (by omega)
theorem Agr.app {s:Ws} (h:jD s) (r:List UInt8):Agr (s.o ++ r) s:=by
 unfold jD at h
 refine ⟨by rw [atQ];omega,fun i hi=>?_⟩
 unfold iI
 rw [atH,atE (by omega),← atH]
theorem Qi (l:List Px):Gd (Bd l):=by
 unfold Bd
 obtain ⟨a1,_,_⟩:=fJ (x:=1) Gd.nil 1
 obtain ⟨a2,_,_⟩:=fJ (x:=1) a1 2
 exact (qA (Et l a2).1).1
theorem WA {F:Nat} {out r:List UInt8} {mo:Int} {l:List Px} (he:kF l [] = (out,0)) (hm:(out.length:Int)≤mo) (hF:l.length < F):∃ L k,qC ((mM l).1 ++ r) mo F F 0 [] = .ok L k out∧(k + 7) / 8 = (mM l).1.length:=by
 have hf:(mM l).1 = (Bd l).o:=by unfold mM;rw [he];rfl
 have hg:=(Qi l).ok
 obtain ⟨L,h⟩:=YV (F:=F) he (Agr.app hg r) hm hF
 rw [hf]
 unfold jD at hg
 exact ⟨L,_,h,hg.symm⟩
theorem SB {F:Nat} {b r:List UInt8} {mo:Int} (hb:b.length≤65535) (hm:(b.length:Int)≤mo) (hF:b.length < F):∃ L k,qC (gK b ++ r) mo F F 0 [] = .ok L k b∧(k + 7) / 8 = (gK b).length:=by
 unfold gK
 split
 ·obtain ⟨L,h⟩:=Y2 (F:=F) (r:=r) hb hm (by omega)
  exact ⟨L,_,h,by omega⟩
 ·refine WA (G9 b) hm ?_
  have:=ET b b.length [] 0
  unfold sS
  rw [auJ]
  omega
theorem H6 {F:Nat} {b r:List UInt8} {mo:Int} (hb:b.length≤65535) (hm:(b.length:Int)≤mo) (hF:b.length < F):vK F (gK b ++ r) mo = (b,(((gK b).length:Nat):Int),0):=by
 obtain ⟨L,k,h,hk⟩:=SB (F:=F) (r:=r) hb hm hF
 rw [YW ⟨L,h⟩ hm,hk]
theorem WB (b:List UInt8):(gK b).length≤b.length + 5:=by
 unfold gK
 split
 ·rw [tZ];exact atG _
 ·rename_i h
  rw [tZ] at h
  omega
def lo1 (lo:Int) (b:UInt8):Int:=(IntKind.u32.wrap (lo + IntKind.u32.wrap (b.toNat:Int))).tmod 65521
def hi1 (lo hi:Int) (b:UInt8):Int:=(IntKind.u32.wrap (hi + lo1 lo b)).tmod 65521
def lV:Int→Int→List UInt8→Int × Int
 | lo,hi,[]=>(lo,hi)
 | lo,hi,b :: r=>lV (lo1 lo b) (hi1 lo hi b) r
def KW (lo hi:Int):Int:=IntKind.u32.wrap ((AM.bits .u32 (IntKind.u32.wrap (hi * 2 ^ (min 16 32))) ||| AM.bits .u32 lo).toNat)
def adl (l:List UInt8):Nat:=(KW (lV 1 0 l).1 (lV 1 0 l).2).toNat
theorem H7 (n:Int):0≤IntKind.u32.wrap n∧IntKind.u32.wrap n < 4294967296:=by
 have h:IntKind.u32.wrap n = n % 4294967296:=by
  simp [IntKind.wrap,IntKind.signed,IntKind.bits]
 rw [h]
 omega
theorem WC (l:List UInt8):KW (lV 1 0 l).1 (lV 1 0 l).2 = (adl l:Nat):=by
 unfold adl KW
 have:=H7 (((AM.bits .u32 (IntKind.u32.wrap ((lV 1 0 l).2 * 2 ^ (min 16 32))) ||| AM.bits .u32 (lV 1 0 l).1).toNat:Nat):Int)
 omega
theorem Og (l:List UInt8):adl l < 4294967296:=by
 have h1:=WC l
 unfold KW at h1
 have:=H7 (((AM.bits .u32 (IntKind.u32.wrap ((lV 1 0 l).2 * 2 ^ (min 16 32))) ||| AM.bits .u32 (lV 1 0 l).1).toNat:Nat):Int)
 omega
def be4 (s:Nat):List UInt8:=[UInt8.ofNat (s / 16777216),UInt8.ofNat (s / 65536),UInt8.ofNat (s / 256),UInt8.ofNat s]
def un4 (r:List UInt8):Nat:=(r.getD 0 0).toNat * 16777216 + (r.getD 1 0).toNat * 65536 + (r.getD 2 0).toNat * 256 + (r.getD 3 0).toNat
theorem Y5 {s:Nat} (h:s < 4294967296) (r:List UInt8):un4 (be4 s ++ r) = s:=by
 unfold un4 be4
 simp only [aum,List.getD_cons_zero,av3,au1]
 omega
def jA (b:List UInt8):List UInt8:=[120,1] ++ gK b ++ be4 (adl b)
def qw (b:List UInt8):Int:=if b.length < 2 then 4 else
 if (b.getD 0 0).toNat % 16 ≠ 8∨7 < (b.getD 0 0).toNat / 16∨(b.getD 1 0).toNat / 32 % 2 ≠ 0∨((b.getD 0 0).toNat * 256 + (b.getD 1 0).toNat) % 31 ≠ 0 then 5 else 0
def yJ (F:Nat) (b:List UInt8) (mo:Int):List UInt8 × Int :=
 if mo < 0 then ([],2) else if qw b ≠ 0 then ([],qw b) else if (vK F (b.drop 2) mo).2.2 ≠ 0 then ([],(vK F (b.drop 2) mo).2.2) else
  if (b.drop (2 + (vK F (b.drop 2) mo).2.1.toNat)).length < 4 then ([],4) else if un4 (b.drop (2 + (vK F (b.drop 2) mo).2.1.toNat)) ≠ adl (vK F (b.drop 2) mo).1 then ([],8) else
  if 4 < (b.drop (2 + (vK F (b.drop 2) mo).2.1.toNat)).length then ([],5) else ((vK F (b.drop 2) mo).1,0)
theorem SE (l:List UInt8):qw ([120,1] ++ l) = 0:=by
 unfold qw
 rw [if_neg (by simp)]
 simp
theorem Y6 {F:Nat} {b r:List UInt8} {mo:Int} (hb:b.length≤65535) (hm:(b.length:Int)≤mo) (hF:b.length < F):yJ F ([120,1] ++ gK b ++ r) mo =
  if r.length < 4 then ([],4) else if un4 r ≠ adl b then ([],8) else if 4 < r.length then ([],5) else (b,0):=by
 have h:=H6 (F:=F) (r:=r) hb hm hF
 have hd:([120,1] ++ gK b ++ r).drop 2 = gK b ++ r:=by simp
 have hd2:([120,1] ++ gK b ++ r).drop (2 + (gK b).length) = r:=by
  rw [← avC,hd,List.drop_left]
 unfold yJ
 rw [if_neg (by omega),auu,SE,if_neg (by simp),← auu,hd,h]
 simp only
 rw [if_neg (by simp),auy,hd2]
theorem UD {F:Nat} {b:List UInt8} {mo:Int} (hb:b.length≤65535) (hm:(b.length:Int)≤mo) (hF:b.length < F):yJ F (jA b) mo = (b,0):=by
 unfold jA
 rw [Y6 hb hm hF,if_neg (by simp [be4]),if_neg (by
  have:=Y5 (Og b) []
  rw [at1] at this
  simp [this]),if_neg (by simp [be4])]
theorem Y7 {T e:Nat} {H:AM.Heap} (hT:und X T = .slice e) (hs:sizeT X e = 1) (hb:bD X e = 8) (hz:bF X e = true) {o g t:Nat} {ob:AM.Obj} {l:List Int} {y:Int}
  (ho:H[o]? = some (some ob)) (h:RwT (.pi .i64 l) g t ob) (hn:l.length≤10000000) :
  ∃ ob',RwT (.pi .i64 (l ++ [y])) (g + 1) t ob'∧bH X H T (.sl o 0 l.length g) (.ro 1 (.pi .i64 [y]) 0) = some (.sl o 0 (l.length + 1) (g + 1),upd H o (some ob')):=by
 have hlive:live H o g = some ob:=by simp [live,ho,h.g]
 have hroom:dX X e (l.length + 1) = true:=by simp [dX,hb];omega
 have hj:dO t 0 = some t:=by
  unfold dO
  by_cases h0:t = 0
  ·rw [if_pos h0,h0]
  ·rw [if_neg h0,if_pos (.inl rfl)]
 have hsrc:iC H (.ro 1 (.pi .i64 [y]) 0) = some (.pi .i64 [y],0):=by simp [iC,jW,mO]
 refine ⟨{ ob with p:=.pi .i64 (l ++ [y]),g:=g + 1,cap:=(match ob.cap with | some c=>if 0 + l.length + AM.ah (.pi .i64 [y])≤c then some (c - 0) else none | none=>none),z:=(if AM.ah ob.p = 0 then ob.z else 1),tg:=t },⟨rfl,rfl,h.row,h.ids,rfl⟩,?_⟩
 unfold bH
 simp only [hT,hs,hz,hsrc,hlive,h.row,h.ids,h.p,h.tg]
 simp only [show ¬ ((1:Nat) = 0∨true = false) by simp,if_false]
 have hc:True∧True∧0 + l.length = AM.ah (.pi .i64 l)∧aO (.pi .i64 l) = 1∧dX X e (l.length + AM.ah (.pi .i64 [y])) = true:=⟨trivial,trivial,by simp [AM.ah],rfl,by simpa [AM.ah] using hroom⟩
 rw [if_pos hc]
 simp only [gG,auo,atG,if_true,auY,auU,nM,hj,aO]
 simp [AM.ah]
 rfl
def LsV (t:Nat) (H:AM.Heap) (la:Option Nat) (lv:AV) (l:List Int):Prop:=match la with
 | none=>l = []∧∃ τ,(τ = 0∨τ = t)∧lv = .ro 0 .pn τ
 | some a=>∃ g τ ob,(τ = 0∨τ = t)∧lv = .sl a 0 l.length g∧H[a]? = some (some ob)∧RwT (.pi .i64 l) g τ ob
def bxO (v:AV) (τ:Nat):AM.Obj:=⟨.pc [v],0,some 1,1,false,true,τ⟩
structure AgV (c:Nat) (b:List UInt8) (mo n:Int) (t:Nat) (H:AM.Heap) (lb nb rb o:Nat) (la oa:Option Nat) (acc:List Int) (s:Is):Prop where
 l:∃ lv τ,(τ = 0∨τ = t)∧H[lb]? = some (some (bxO lv τ))∧LsV t H la lv acc
 n:∃ τ,(τ = 0∨τ = t)∧H[nb]? = some (some (bxO (.int .i64 n) τ))
 r:∃ τ,(τ = 0∨τ = t)∧H[rb]? = some (some (bxO (.ptr o 0 0 0) τ))
 d:IrV c b mo t H o oa s
 nd:([lb,nb,rb,o] ++ la.toList ++ oa.toList).Nodup
structure AgS (c:Nat) (b:List UInt8) (mo n:Int) (S:List AM.Obj) (lb nb rb o:Nat) (la oa:Option Nat) (acc:List Int) (s:Is):Prop where
 l:S[lb]? = some (bxO (match la with | none=>.ro 0 .pn 0 | some a=>.sl a 0 acc.length 0) 0)
 pl:match la with | none=>acc = [] | some a=>S[a]? = some ⟨.pi .i64 acc,0,none,0,true,false,0⟩
 n:S[nb]? = some (bxO (.int .i64 n) 0)
 r:S[rb]? = some (bxO (.ptr o 0 0 0) 0)
 d:S[o]? = some (fK c b mo s (match oa with | none=>.ro 0 .pn 0 | some a=>.sl a 0 s.o.length 0) 0 0)
 po:match oa with | none=>s.o = [] | some a=>S[a]? = some ⟨.pb s.o,0,none,0,true,false,0⟩
 nd:([lb,nb,rb,o] ++ la.toList ++ oa.toList).Nodup
section
variable {c:Nat} {b:List UInt8} {mo n:Int} {t:Nat} {H:AM.Heap} {lb nb rb o:Nat} {la oa:Option Nat} {acc:List Int} {s:Is} {π:List (Nat × Nat)} {S:List AM.Obj}
theorem Img.bx1 (h:Img t H π S) {k:Nat} {v:AV} (hk:S[k]? = some (bxO v 0)):π[k]? = some (sg π k,0)∧∃ x τ,(τ = 0∨τ = t)∧H[sg π k]? = some (some (bxO x τ))∧ren idN tz x = ren (fZ π) tz v∧∀ u ∈ tags x,u = 0∨u = t:=by
 obtain ⟨o,g,ob,h1,h2,h3⟩:=h.ob k _ hk
 obtain ⟨rfl,p,τ,rfl,hτ,hp,ht⟩:=Like.box h3
 have hs:=kS h1
 rw [hs]
 simp only [ren,bU] at hp
 obtain ⟨l1,rfl,k1⟩:=vU hp
 obtain ⟨x,l2,rfl,e1,k2⟩:=fD k1
 obtain rfl:=oP k2
 exact ⟨h1,x,τ,hτ,h2,e1,fun u hu=>ht u (by simpa [tags,aX] using hu)⟩
theorem WE (h:Img t H π S) {l:List Nat} (hn:l.Nodup) (hl:∀ x ∈ l,x < S.length):(l.map (sg π)).Nodup:=by
 rw [aur,avz]
 refine List.Pairwise.imp_of_mem ?_ (aur.1 hn)
 intro a b ha hb hne e
 exact hne (h.Jy (hl a ha) (hl b hb) e)
theorem AgV.mP (h:Img t H π S) (hs:AgS c b mo n S lb nb rb o la oa acc s):AgV c b mo n t H (sg π lb) (sg π nb) (sg π rb) (sg π o) (la.map (sg π)) (oa.map (sg π)) acc s:=by
 have hlt:∀ {k:Nat} {x:AM.Obj},S[k]? = some x→k < S.length:=fun h=>dR h
 have hnd:(([lb,nb,rb,o] ++ la.toList ++ oa.toList).map (sg π)).Nodup:=by
  refine WE h hs.nd ?_
  intro x hx
  simp only [atM,atX,avG,or_false] at hx
  rcases hx with ((rfl | rfl | rfl | rfl) | hx) | hx
  ·exact hlt hs.l
  ·exact hlt hs.n
  ·exact hlt hs.r
  ·exact hlt hs.d
  ·cases la with
   | none=>simp at hx
   | some a=>simp at hx;subst hx;exact hlt hs.pl
  ·cases oa with
   | none=>simp at hx
   | some a=>simp at hx;subst hx;exact hlt hs.po
 have aoh:([sg π lb,sg π nb,sg π rb,sg π o] ++ (la.map (sg π)).toList ++ (oa.map (sg π)).toList).Nodup:=by
  cases la <;> cases oa <;> simpa using hnd
 refine ⟨?_,?_,?_,⟨?_,?_⟩,aoh⟩
 ·obtain ⟨_,x,τ,hτ,hb,hx,ht⟩:=Img.bx1 h hs.l
  refine ⟨x,τ,hτ,hb,?_⟩
  have hla:=hs.pl
  cases la with
  | none =>
   simp only [ren] at hx
   obtain ⟨τ2,rfl⟩:=vV hx
   exact ⟨hla,τ2,ht τ2 (by simp [tags]),rfl⟩
  | some a =>
   obtain ⟨o2,g2,ob,p1,p2,p3⟩:=h.ob a _ hla
   simp only [ren,fZ,p1] at hx
   obtain rfl:=Bj hx
   obtain ⟨q1,q2⟩:=Like.row' p3 rfl
   exact ⟨g2,ob.tg,ob,q2,by rw [kS p1],by rw [kS p1];exact p2,q1⟩
 ·obtain ⟨_,x,τ,hτ,hb,hx,ht⟩:=Img.bx1 h hs.n
  simp only [ren] at hx
  obtain rfl:=mQ hx
  exact ⟨τ,hτ,hb⟩
 ·obtain ⟨_,x,τ,hτ,hb,hx,ht⟩:=Img.bx1 h hs.r
  obtain ⟨o2,g2,ob,p1,p2,p3⟩:=h.ob o _ hs.d
  have hg:=(p3.bx rfl).2.2
  subst hg
  simp only [ren,fZ,p1] at hx
  obtain rfl:=Y8 hx
  exact ⟨τ,hτ,by rw [kS p1];exact hb⟩
 ·obtain ⟨o2,g2,ob,p1,p2,p3⟩:=h.ob o _ hs.d
  rw [kS p1]
  obtain ⟨rfl,p,τ,rfl,hτ,hp,ht⟩:=Like.box p3
  simp only [ren,bU] at hp
  obtain ⟨l1,rfl,k1⟩:=vU hp
  obtain ⟨x1,l2,rfl,e1,k2⟩:=fD k1
  obtain ⟨x2,l3,rfl,e2,k3⟩:=fD k2
  obtain ⟨x3,l4,rfl,e3,k4⟩:=fD k3
  obtain ⟨x4,l5,rfl,e4,k5⟩:=fD k4
  obtain ⟨x5,l6,rfl,e5,k6⟩:=fD k5
  obtain rfl:=oP k6
  obtain ⟨τ1,rfl⟩:=vV e1
  obtain rfl:=mQ e2
  obtain rfl:=mQ e4
  obtain rfl:=mQ e5
  have hτ1:τ1 = 0∨τ1 = t:=ht τ1 (by simp [tags,aX])
  refine ⟨x3,τ1,τ,hτ1,hτ,p2,?_⟩
  have hoa:=hs.po
  cases oa with
  | none =>
   simp only [ren] at e3
   obtain ⟨τ2,rfl⟩:=vV e3
   exact ⟨hoa,τ2,ht τ2 (by simp [tags,aX]),rfl⟩
  | some a =>
   obtain ⟨o3,g3,ob3,r1,r2,r3⟩:=h.ob a _ hoa
   simp only [ren,fZ,r1] at e3
   obtain rfl:=Bj e3
   obtain ⟨q1,q2⟩:=Like.row' r3 rfl
   exact ⟨g3,ob3.tg,ob3,q2,by rw [kS r1],by rw [kS r1];exact r2,q1⟩
 ·intro a ha
  cases oa with
  | none=>cases ha
  | some a' =>
   simp only [atF,atA] at ha
   subst ha
   intro e
   have:=h.Jy (hlt hs.po) (hlt hs.d) e
   subst this
   have hn:=hs.nd
   cases la <;> simp at hn
end
end Go.Proofs.Ytbodincpjijdiaa
