/- DQ to EJ: texts of this claim, one behind the other; what each shows stands at its head. -/
import Derived.Test.YteblpjhkgdpchaaMg4
set_option linter.unusedSimpArgs false
set_option linter.unusedVariables false
set_option maxRecDepth 100000
set_option maxHeartbeats 8000000
namespace Go.Proofs.Yteblpjhkgdpchaa
open Go.AM
theorem abg {y u k j:Nat} (hu:u < 2) (hy:y / 2 ^ k % 2 = 0):(y ||| u * 2 ^ k) / 2 ^ j % 2 = if j = k then u else y / 2 ^ j % 2:=by
  have e:∀ x i:Nat,x / 2 ^ i % 2 = if x.testBit i then 1 else 0:=by
    intro x i
    rw [Nat.testBit_eq_decide_div_mod_eq]
    by_cases h:x / 2 ^ i % 2 = 1
    · simp [h]
    · rw [if_neg (by simpa using h)];omega
  have hyk:y.testBit k = false:=by
    rw [Nat.testBit_eq_decide_div_mod_eq,hy];rfl
  rw [e,e,Nat.testBit_or]
  have hu2:u = 0∨u = 1:=by omega
  rcases hu2 with rfl | rfl
  · rw [Nat.zero_mul,Nat.zero_testBit,Bool.or_false]
    by_cases hj:j = k
    · subst hj;simp [hyk]
    · simp [hj]
  · rw [Nat.one_mul,Nat.testBit_two_pow]
    by_cases hj:j = k
    · subst hj;simp
    · have:¬ k = j:=fun h=>hj h.symm
      simp [hj,this]
def Cln (s:Ws):Prop:=∀ i,s.k≤i→iK s.o i = 0
structure Gd (s:Ws):Prop where
  ok:jK s
  cl:Cln s
structure Ext (s s':Ws):Prop where
  le:s.k≤s'.k
  at':∀ i,i < s.k→iK s'.o i = iK s.o i
theorem Ext.refl (s:Ws):Ext s s:=⟨Nat.le_refl _,fun _ _=>rfl⟩
theorem Ext.trans {s s1 s2:Ws} (h:Ext s s1) (h2:Ext s1 s2):Ext s s2:=⟨Nat.le_trans h.le h2.le,fun i hi=>by rw [h2.at' i (Nat.lt_of_lt_of_le hi h.le),h.at' i hi]⟩
theorem DJ {s:Ws} {x:Int} (h:Gd s) (i:Nat):iK (pO s x).o i = if i = s.k then x % 2 else iK s.o i:=by
  have hok:=h.ok
  unfold jK at hok
  have h0:∀ i,iK (if s.k % 8 = 0 then s.o ++ [0] else s.o) i = iK s.o i:=by
    intro i
    split
    · unfold iK
      by_cases h1:i / 8 < s.o.length
      · rw [List.getD_eq_getElem?_getD,List.getD_eq_getElem?_getD,List.getElem?_append_left h1]
      · have h3:s.o.getD (i / 8) 0 = 0:=by rw [List.getD_eq_getElem?_getD,List.getElem?_eq_none (by omega)];rfl
        have h2:(s.o ++ [0]).getD (i / 8) 0 = 0:=by
          rw [List.getD_eq_getElem?_getD,List.getElem?_append_right (by omega)]
          cases i / 8 - s.o.length with
          | zero=>rfl
          | succ n=>rfl
        rw [h2,h3]
    · rfl
  have hlen:s.k / 8 < (if s.k % 8 = 0 then s.o ++ [0] else s.o).length:=by
    split
    · simp;omega
    · omega
  have hcl:iK (if s.k % 8 = 0 then s.o ++ [0] else s.o) s.k = 0:=by rw [h0];exact h.cl _ (Nat.le_refl _)
  rw [← h0 i]
  unfold pO
  simp only
  generalize (if s.k % 8 = 0 then s.o ++ [0] else s.o) = b at *
  unfold iK at *
  by_cases h8:i / 8 = s.k / 8
  · rw [h8]
    have e1:(b.set (s.k / 8) (orB (b.getD (s.k / 8) 0) x (s.k % 8))).getD (s.k / 8) 0 = orB (b.getD (s.k / 8) 0) x (s.k % 8):=by
      rw [List.getD_eq_getElem?_getD,List.getElem?_set_self hlen];rfl
    rw [e1]
    generalize b.getD (s.k / 8) 0 = y at *
    have hx2:(x % 2).toNat < 2:=by omega
    have hkr:s.k % 8 < 8:=Nat.mod_lt _ (by omega)
    have hor:y.toNat ||| (x % 2).toNat * 2 ^ (s.k % 8) < 256:=Nat.or_lt_two_pow (n:=8) y.toNat_lt (aaH hx2 hkr)
    have e2:(orB y x (s.k % 8)).toNat = y.toNat ||| (x % 2).toNat * 2 ^ (s.k % 8):=by
      unfold orB
      rw [UInt8.toNat_ofNat']
      exact Nat.mod_eq_of_lt hor
    rw [e2,abg hx2 (by omega)]
    by_cases hi:i = s.k
    · rw [if_pos (by rw [hi]),if_pos hi];omega
    · rw [if_neg (by omega),if_neg hi]
  · have e1:(b.set (s.k / 8) (orB (b.getD (s.k / 8) 0) x (s.k % 8))).getD (i / 8) 0 = b.getD (i / 8) 0:=by
      rw [List.getD_eq_getElem?_getD,List.getElem?_set_ne (Ne.symm h8),← List.getD_eq_getElem?_getD]
    rw [e1,if_neg (fun h=>h8 (by rw [h]))]
theorem Qv {s:Ws} {x:Int} (h:Gd s):Gd (pO s x)∧Ext s (pO s x):=by
  refine ⟨⟨DI h.ok,fun i hi=>?_⟩,Nat.le_succ _,fun i hi=>?_⟩
  · have hi':s.k + 1≤i:=hi
    rw [DJ h,if_neg (by omega)]
    exact h.cl i (by omega)
  · rw [DJ h,if_neg (by omega)]
theorem gX {s:Ws} {x:Int} (h:Gd s):∀ n,Gd (bZ s x n)∧Ext s (bZ s x n)∧∀ i,i < n→iK (bZ s x n).o (s.k + i) = x / 2 ^ i % 2
  | 0=>⟨h,Ext.refl s,fun i hi=>absurd hi (by omega)⟩
  | n + 1=>by
    obtain ⟨h1,h2,h3⟩:=gX (x:=x) h n
    obtain ⟨h4,h5⟩:=Qv (x:=x / 2 ^ n) h1
    have hk:=(dQ (x:=x) h.ok n).2
    refine ⟨h4,h2.trans h5,fun i hi=>?_⟩
    show iK (pO _ _).o _ = _
    rw [DJ h1]
    by_cases hin:i = n
    · subst hin
      rw [if_pos hk.symm]
    · rw [if_neg (by omega)]
      exact h3 i (by omega)
theorem Fh {x:Int}:∀ (n:Nat) {s:Ws},Gd s→Gd (qW s x n)∧Ext s (qW s x n)∧∀ i,i < n→iK (qW s x n).o (s.k + i) = x / 2 ^ (n - 1 - i) % 2
  | 0,s,h=>⟨h,Ext.refl s,fun i hi=>absurd hi (by omega)⟩
  | n + 1,s,h=>by
    obtain ⟨h4,h5⟩:=Qv (x:=x / 2 ^ n) h
    obtain ⟨h1,h2,h3⟩:=Fh (x:=x) n h4
    have hk:(pO s (x / 2 ^ n)).k = s.k + 1:=rfl
    refine ⟨h1,h5.trans h2,fun i hi=>?_⟩
    show iK (qW (pO s (x / 2 ^ n)) x n).o _ = _
    cases i with
    | zero =>
      rw [h2.at' _ (by rw [hk];omega),Nat.add_zero,DJ h,if_pos rfl]
      rfl
    | succ i =>
      have:=h3 i (by omega)
      rw [hk] at this
      rw [show s.k + (i + 1) = s.k + 1 + i by omega,this,show n + 1 - 1 - (i + 1) = n - 1 - i by omega]
structure Agr (b:List UInt8) (s:Ws):Prop where
  le:s.k≤8 * b.length
  at':∀ i,i < s.k→iK b i = iK s.o i
theorem Agr.ext {b:List UInt8} {s s':Ws} (h:Ext s s') (h2:Agr b s'):Agr b s:=⟨Nat.le_trans h.le h2.le,fun i hi=>by rw [h2.at' i (Nat.lt_of_lt_of_le hi h.le),h.at' i hi]⟩
theorem Xm (x:Int) (n:Nat):x % 2 ^ (n + 1) = x % 2 ^ n + 2 ^ n * (x / 2 ^ n % 2):=by
  have hp:(0:Int) < 2 ^ n:=Int.pow_pos (by omega)
  rw [Int.pow_succ]
  generalize (2:Int) ^ n = p at *
  have h1:=Int.emod_add_mul_ediv x p
  have h2:=Int.emod_add_mul_ediv (x / p) 2
  have h3:=Int.emod_nonneg x (show p ≠ 0 by omega)
  have h4:=Int.emod_lt_of_pos x hp
  generalize x % p = r at *
  generalize hq:x / p = q at *
  have h5:q % 2 = 0∨q % 2 = 1:=by omega
  have e:x = (r + p * (q % 2)) + (p * 2) * (q / 2):=by
    rw [← h1]
    conv=>lhs;rw [← h2]
    rw [Int.mul_add,Int.mul_assoc]
    omega
  rw [e,Int.add_mul_emod_self_left]
  rcases h5 with h5 | h5 <;> rw [h5]
  · exact Int.emod_eq_of_lt (by omega) (by omega)
  · exact Int.emod_eq_of_lt (by omega) (by omega)
theorem Fj {b:List UInt8} {k:Nat} {o:List UInt8} {x:Int}:∀ n,k + n≤8 * b.length→(∀ i,i < n→iK b (k + i) = x / 2 ^ i % 2)→fQ b n k o = .ok (x % 2 ^ n) (k + n) o
  | 0,_,_=>by
    show Res.ok 0 k o = _
    rw [Int.pow_zero,Int.emod_one]
    rfl
  | n + 1,hl,h=>by
    have ih:=Fj (x:=x) (o:=o) n (by omega) fun i hi=>h i (by omega)
    unfold fQ
    rw [dP ih]
    have hb:vV b (k + n) o = .ok (x / 2 ^ n % 2) (k + n + 1) o:=by
      unfold vV
      rw [if_pos (by omega),h n (by omega)]
    rw [dP hb,Xm]
    rfl
theorem tK {b:List UInt8} {s:Ws} {o:List UInt8} {x:Int} {n:Nat} (h:Gd s) (ha:Agr b (bZ s x n)):fQ b n s.k o = .ok (x % 2 ^ n) (bZ s x n).k o:=by
  have hk:=(dQ (x:=x) h.ok n).2
  have hle:=ha.le
  rw [hk] at hle ⊢
  refine Fj n hle fun i hi=>?_
  rw [ha.at' _ (by omega)]
  exact (gX h n).2.2 i hi
theorem Vo {b:List UInt8} {l codes:List Int} {c:Int} {L y:Nat} {o:List UInt8} (hc:0≤c) (hno:∀ i,1≤i→i < L→jE (i:Nat) (c / 2 ^ (L - i)) l codes 0 = none) (hyes:jE (L:Nat) c l codes 0 = some y) (k0:Nat) (hle:k0 + L≤8 * b.length) (hb:∀ i,i < L→iK b (k0 + i) = c / 2 ^ (L - 1 - i) % 2) :
    ∀ (r i f:Nat),r + i = L + 1→1≤i→1≤r→r≤f→decP b l codes f i (c / 2 ^ r) (k0 + i - 1) o = .ok y (k0 + L) o
  | 0,i,f,_,_,h,_=>absurd h (by omega)
  | r + 1,i,f,hi,h1,_,hf=>by
    obtain ⟨f,rfl⟩:∃ g,f = g + 1:=⟨f - 1,by omega⟩
    have hbit:vV b (k0 + i - 1) o = .ok (c / 2 ^ r % 2) (k0 + i) o:=by
      unfold vV
      have:=hb (i - 1) (by omega)
      rw [show k0 + (i - 1) = k0 + i - 1 by omega,show L - 1 - (i - 1) = r by omega] at this
      rw [if_pos (by omega),this,show k0 + i - 1 + 1 = k0 + i by omega]
    have hx:2 * (c / 2 ^ (r + 1)) + c / 2 ^ r % 2 = c / 2 ^ r:=by
      rw [Int.pow_succ,← Int.ediv_ediv_of_nonneg (Int.le_of_lt (Int.pow_pos (by omega)))]
      omega
    unfold decP
    rw [dP hbit,hx]
    by_cases hr:r = 0
    · subst hr
      have:i = L:=by omega
      subst this
      rw [Int.pow_zero,Int.ediv_one,hyes]
      rfl
    · have:=hno i h1 (by omega)
      rw [show L - i = r by omega] at this
      rw [this]
      have ih:=Vo hc hno hyes k0 hle hb (o:=o) r (i + 1) f (by omega) (by omega) (by omega) (by omega)
      rw [show k0 + (i + 1) - 1 = k0 + i by omega] at ih
      exact ih
def Fp (l codes:List Int) (y:Nat):Prop:=1≤(l.getD y 0).toNat∧(l.getD y 0).toNat≤(mxL 0 l).toNat∧0≤codes.getD y 0∧codes.getD y 0 < 2 ^ (l.getD y 0).toNat ∧
  (∀ i,1≤i→i < (l.getD y 0).toNat→jE (i:Nat) (codes.getD y 0 / 2 ^ ((l.getD y 0).toNat - i)) l codes 0 = none)∧jE ((l.getD y 0).toNat:Nat) (codes.getD y 0) l codes 0 = some y
theorem Vp {b:List UInt8} {l:List Int} {s:Ws} {y:Nat} {o:List UInt8} (h:Gd s) (hl:(bn l).2 = 0) (hc:Fp l (gK l) y) (ha:Agr b (jJ s (gK l) l y)):uo b l s.k o = .ok y (jJ s (gK l) l y).k o:=by
  obtain ⟨c1,c2,c3,c3',c4,c5⟩:=hc
  unfold jJ at ha ⊢
  have hk:=(D5 (x:=(gK l).getD y 0) (l.getD y 0).toNat h.ok).2
  obtain ⟨_,_,hb⟩:=Fh (x:=(gK l).getD y 0) (l.getD y 0).toNat h
  have hle:=ha.le
  rw [hk] at hle ⊢
  unfold uo
  rw [if_pos hl]
  have:=Vo (o:=o) c3 c4 c5 s.k hle (fun i hi=>by rw [ha.at' _ (by omega)];exact hb i hi) (l.getD y 0).toNat 1 (mxL 0 l).toNat (by omega) (by omega) c1 c2
  rw [show (gK l).getD y 0 / 2 ^ (l.getD y 0).toNat = 0 from Int.ediv_eq_zero_of_lt c3 c3'] at this
  exact this
end Go.Proofs.Yteblpjhkgdpchaa
namespace Go.Proofs.Yteblpjhkgdpchaa
open Go.AM
def lcX:List Int:=((List.range 144).map fun i=>Int.ofNat (48 + i)) ++ ((List.range 112).map fun i=>Int.ofNat (400 + i)) ++ ((List.range 24).map fun i=>Int.ofNat i) ++ ((List.range 8).map fun i=>Int.ofNat (192 + i))
def dcX:List Int:=(List.range 32).map fun i=>Int.ofNat i
theorem abh:lcL = lcX:=by decide +kernel
theorem Vq:gK flL = lcX:=by decide +kernel
theorem abj:dcL = dcX:=by decide +kernel
theorem Vr:gK flD = dcX:=by decide +kernel
theorem JC:(bn flL).2 = 0∧(bn flD).2 = 0∧(mxL 0 flL).toNat = 9∧(mxL 0 flD).toNat = 5:=by decide +kernel
theorem yS {i code:Int}:∀ (l cs:List Int) (j:Nat),(∀ p ∈ l.zip cs,¬ (p.1 = i∧p.2 = code))→jE i code l cs j = none
  | [],_,_,_=>by unfold jE;rfl
  | x :: r,[],_,_=>by unfold jE;rfl
  | x :: r,y :: cs,j,h=>by
    unfold jE
    rw [if_neg (h (x,y) (List.mem_cons_self ..))]
    exact yS r cs _ fun p hp=>h p (List.mem_cons_of_mem _ hp)
theorem MJ:∀ p ∈ flL.zip lcX,(p.1 = 8∧48≤p.2∧p.2≤199)∨(p.1 = 9∧400≤p.2∧p.2≤511)∨(p.1 = 7∧0≤p.2∧p.2≤23):=by decide +kernel
theorem MK:∀ p ∈ flD.zip dcX,p.1 = 5∧0≤p.2∧p.2≤31:=by decide +kernel
theorem Xn:∀ y,y < 288→(flL.getD y 0,lcX.getD y 0) ∈ flL.zip lcX∧jE (flL.getD y 0).toNat (lcX.getD y 0) flL lcX 0 = some y:=by decide +kernel
theorem Xo:∀ y,y < 32→(flD.getD y 0,dcX.getD y 0) ∈ flD.zip dcX∧jE (flD.getD y 0).toNat (dcX.getD y 0) flD dcX 0 = some y:=by decide +kernel
theorem abk {y:Nat} (h:y < 288):Fp flL (gK flL) y:=by
  obtain ⟨h1,h2⟩:=Xn y h
  have hc:=MJ _ h1
  unfold Fp
  rw [Vq,JC.2.2.1]
  simp only at hc
  generalize flL.getD y 0 = L at *
  generalize lcX.getD y 0 = c at *
  have none:∀ i:Nat,i < L.toNat→(i = 7→c / 2 ^ (L.toNat - i) ≥ 24)→(i = 8→c / 2 ^ (L.toNat - i) ≥ 200)→L≤9→jE (i:Nat) (c / 2 ^ (L.toNat - i)) flL lcX 0 = none:=by
    intro i hi h7 h8 h9
    refine yS _ _ _ fun p hp ⟨e1,e2⟩=>?_
    have:=MJ p hp
    rw [e1,e2] at this
    rcases this with ⟨g1,g2,g3⟩ | ⟨g1,g2,g3⟩ | ⟨g1,g2,g3⟩
    · have:=h8 (by omega);omega
    · omega
    · have:=h7 (by omega);omega
  rcases hc with ⟨rfl,g2,g3⟩ | ⟨rfl,g2,g3⟩ | ⟨rfl,g2,g3⟩
  · refine ⟨by decide,by decide,by omega,?_,fun i h1 hi=>none i hi ?_ ?_ (by omega),h2⟩
    · show c < 256;omega
    · rintro rfl
      show c / 2 ≥ 24
      omega
    · rintro rfl
      exact absurd hi (by decide)
  · refine ⟨by decide,by decide,by omega,?_,fun i h1 hi=>none i hi ?_ ?_ (by omega),h2⟩
    · show c < 512;omega
    · rintro rfl
      show c / 4 ≥ 24
      omega
    · rintro rfl
      show c / 2 ≥ 200
      omega
  · refine ⟨by decide,by decide,by omega,?_,fun i h1 hi=>none i hi ?_ ?_ (by omega),h2⟩
    · show c < 128;omega
    · rintro rfl
      exact absurd hi (by decide)
    · rintro rfl
      exact absurd hi (by decide)
theorem abl {y:Nat} (h:y < 32):Fp flD (gK flD) y:=by
  obtain ⟨h1,h2⟩:=Xo y h
  have hc:=MK _ h1
  unfold Fp
  rw [Vr,JC.2.2.2]
  simp only at hc
  generalize flD.getD y 0 = L at *
  generalize dcX.getD y 0 = c at *
  obtain ⟨rfl,g2,g3⟩:=hc
  refine ⟨by decide,by decide,by omega,?_,fun i h1 hi=>?_,h2⟩
  · show c < 32;omega
  · refine yS _ _ _ fun p hp ⟨e1,e2⟩=>?_
    have:=(MK p hp).1
    have:i < 5:=hi
    omega
theorem rJ {s:Ws} {cs ls:List Int} {y:Nat} (h:Gd s):Gd (jJ s cs ls y)∧Ext s (jJ s cs ls y):=by
  obtain ⟨h1,h2,_⟩:=Fh (x:=cs.getD y 0) (ls.getD y 0).toNat h
  exact ⟨h1,h2⟩
theorem JD {b:List UInt8} {s:Ws} {y:Nat} {o:List UInt8} (h:Gd s) (hy:y < 288) (ha:Agr b (jJ s lcL flL y)):uo b zy s.k o = .ok y (jJ s lcL flL y).k o:=by
  have e:lcL = gK flL:=by rw [abh,Vq]
  rw [e] at ha ⊢
  exact Vp h JC.1 (abk hy) ha
theorem Xp {b:List UInt8} {s:Ws} {y:Nat} {o:List UInt8} (h:Gd s) (hy:y < 32) (ha:Agr b (jJ s dcL flD y)):uo b yx s.k o = .ok y (jJ s dcL flD y).k o:=by
  have e:dcL = gK flD:=by rw [abj,Vr]
  rw [e] at ha ⊢
  exact Vp h JC.2.1 (abl hy) ha
theorem Vs {s:Ws} {x:Px} (h:Gd s):Gd (pxW s x)∧Ext s (pxW s x):=by
  unfold pxW
  split
  · exact rJ h
  · obtain ⟨a1,b1⟩:=rJ (cs:=lcL) (ls:=flL) (y:=(lenOf x.len.toNat).1) h
    obtain ⟨a2,b2,_⟩:=gX (x:=x.len - ((lenOf x.len.toNat).2.1:Nat)) a1 (lenOf x.len.toNat).2.2
    obtain ⟨a3,b3⟩:=rJ (cs:=dcL) (ls:=flD) (y:=(dZ x.dist.toNat).1) a2
    obtain ⟨a4,b4,_⟩:=gX (x:=x.dist - ((dZ x.dist.toNat).2.1:Nat)) a3 (dZ x.dist.toNat).2.2
    exact ⟨a4,b1.trans (b2.trans (b3.trans b4))⟩
theorem JE:∀ (l:List Px) {s:Ws},Gd s→Gd (l.foldl pxW s)∧Ext s (l.foldl pxW s)
  | [],s,h=>⟨h,Ext.refl s⟩
  | x :: l,s,h=>by
    obtain ⟨a1,b1⟩:=Vs (x:=x) h
    obtain ⟨a2,b2⟩:=JE l a1
    exact ⟨a2,b1.trans b2⟩
theorem Xq:∀ n,n < 259→3≤n→AO (lenOf n).1 = ((lenOf n).2.1:Nat)∧CZ (lenOf n).1 = (lenOf n).2.2:=by decide +kernel
theorem JF {per n:Nat}:∀ (f s base bits j:Nat),bits≤(gF per n f s base bits j).2.2
  | 0,_,_,_,_=>Nat.le_refl _
  | f + 1,s,base,bits,j=>by
    unfold gF
    split
    · exact Nat.le_trans (Nat.le_succ _) (JF f _ _ _ _)
    · split
      · exact Nat.le_refl _
      · exact JF f _ _ _ _
theorem Xr {n:Nat} (h1:1≤n) (h:n≤32768):sS (dZ n).1 = (dZ n).2.1∧lN (dZ n).1 = (dZ n).2.2:=by
  unfold dZ sS lN
  by_cases h4:n≤4
  · rw [if_pos h4]
    simp only
    rw [if_pos (by omega),if_pos (by omega)]
    omega
  · rw [if_neg h4]
    have hb:=JF (per:=2) (n:=n) 40 4 5 1 0
    obtain ⟨b,j,hj,he⟩:=zn (n:=n) (f:=40) (bits:=1) (j:=0) (by omega) (Io h)
    have he':gF 2 n 40 4 5 1 0 = (2 * b + 2 + j,(2 + j) * 2 ^ b + 1,b):=he
    rw [he'] at hb ⊢
    simp only at hb ⊢
    rw [if_neg (by omega),if_neg (by omega)]
    have e1:(2 * b + 2 + j) / 2 - 1 = b:=by omega
    have e2:(2 * b + 2 + j) % 2 = j:=by omega
    rw [e1,e2]
    omega
theorem Qw {mo:Int} {d:Nat}:∀ (n k:Nat) (o:List UInt8),((kF d n o).length:Int)≤mo→qP (yu mo d) n k o = .ok () k (kF d n o)
  | 0,_,_,_=>rfl
  | n + 1,k,o,h=>by
    have hl:=wS d (n + 1) o
    have h1:yu mo d k o = .ok () k (o ++ [o.getD (o.length - d) 0]):=by
      unfold yu pX
      rw [if_pos (by omega)]
    unfold qP
    rw [dP h1]
    exact Qw n k _ h
theorem Am:∀ (l:List Px) (o out:List UInt8),jO l o = (out,0)→o.length≤out.length
  | [],o,out,h=>by
    unfold jO at h
    simp only [Prod.mk.injEq] at h
    rw [h.1]
    exact Nat.le_refl _
  | x :: r,o,out,h=>by
    unfold jO at h
    split at h
    · cases h
    · split at h
      · have:=Am r _ _ h
        simp at this
        omega
      · split at h
        · cases h
        · have:=Am r _ _ h
          rw [wS] at this
          omega
theorem SS {x:Px} (h:mV x = true) (h0:¬ x.len = 0):3≤x.len∧x.len≤258∧1≤x.dist∧x.dist≤32768:=by
  unfold mV at h
  rw [if_neg h0] at h
  simp only [Bool.and_eq_true,decide_eq_true_eq] at h
  exact ⟨h.1,h.2.1,h.2.2.1,h.2.2.2.1⟩
theorem OI {b:List UInt8} {mo:Int}:∀ (l:List Px) (s:Ws) (o out:List UInt8) (f:Nat),Gd s→jO l o = (out,0)→Agr b (jJ (l.foldl pxW s) lcL flL 256)→l.length < f→(out.length:Int)≤mo →
    qQ b mo zy yx f s.k o = .ok () (jJ (l.foldl pxW s) lcL flL 256).k out
  | [],s,o,out,f,hs,he,ha,hf,hm=>by
    obtain ⟨f,rfl⟩:∃ g,f = g + 1:=⟨f - 1,by simp at hf;omega⟩
    unfold jO at he
    simp only [Prod.mk.injEq] at he
    obtain ⟨rfl,_⟩:=he
    have h1:=JD (o:=o) hs (by omega) ha
    unfold qQ
    rw [dP h1]
    rfl
  | x :: r,s,o,out,f,hs,he,ha,hf,hm=>by
    obtain ⟨f,rfl⟩:∃ g,f = g + 1:=⟨f - 1,by simp at hf;omega⟩
    have hf':r.length < f:=by simp at hf;omega
    have hmay:mV x = true:=by
      unfold jO at he
      split at he
      · cases he
      · rename_i h;simpa using h
    unfold jO at he
    rw [if_neg (by simp [hmay])] at he
    obtain ⟨g1,g2⟩:=Vs (x:=x) hs
    obtain ⟨g3,g4⟩:=JE r g1
    have ha':Agr b (jJ (r.foldl pxW (pxW s x)) lcL flL 256):=ha
    have hax:=Agr.ext (g4.trans (rJ g3).2) ha'
    show qQ b mo zy yx (f + 1) s.k o = .ok () (jJ (r.foldl pxW (pxW s x)) lcL flL 256).k out
    unfold qQ
    by_cases h0:x.len = 0
    · rw [if_pos h0] at he
      have ih:=OI r (pxW s x) _ _ f g1 he ha' hf' hm
      have hlen:=Am _ _ _ he
      have hx:pxW s x = jJ s lcL flL x.byte.toNat:=by unfold pxW;rw [if_pos h0]
      rw [hx] at hax ih ⊢
      have hb:=x.byte.toNat_lt
      have hb2:x.byte.toNat < 256:=hb
      rw [dP (JD (o:=o) hs (by omega) hax)]
      rw [if_neg (by omega),if_pos hb2]
      have ht:pX mo (UInt8.ofNat x.byte.toNat) (jJ s lcL flL x.byte.toNat).k o = .ok () (jJ s lcL flL x.byte.toNat).k (o ++ [x.byte]):=by
        unfold pX
        simp at hlen
        rw [if_pos (by omega)]
        simp
      rw [dP ht]
      exact ih
    · rw [if_neg h0] at he
      obtain ⟨m1,m2,m3,m4⟩:=SS hmay h0
      have hd:¬ (o.length:Int) < x.dist:=by
        intro h
        rw [if_pos h] at he
        cases he
      rw [if_neg hd] at he
      have ih:=OI r (pxW s x) _ _ f g1 he ha' hf' hm
      have hlen:=Am _ _ _ he
      have hx:pxW s x = bZ (jJ (bZ (jJ s lcL flL (lenOf x.len.toNat).1) (x.len - ((lenOf x.len.toNat).2.1:Nat)) (lenOf x.len.toNat).2.2) dcL flD (dZ x.dist.toNat).1) (x.dist - ((dZ x.dist.toNat).2.1:Nat)) (dZ x.dist.toNat).2.2:=by unfold pxW;rw [if_neg h0]
      rw [hx] at hax ih ⊢
      obtain ⟨n1,n2,n3,n4,n5⟩:=vT x.len.toNat (by omega) (by omega)
      obtain ⟨t1,t2⟩:=Xq x.len.toNat (by omega) (by omega)
      obtain ⟨d1,d2,d3,d4⟩:=vU (n:=x.dist.toNat) (by omega) (by omega)
      obtain ⟨u1,u2⟩:=Xr (n:=x.dist.toNat) (by omega) (by omega)
      generalize lenOf x.len.toNat = LO at *
      obtain ⟨ls,lb,lx⟩:=LO
      generalize dZ x.dist.toNat = DO at *
      obtain ⟨ds,db,dx⟩:=DO
      simp only at n1 n2 n3 n4 n5 t1 t2 d1 d2 d3 d4 u1 u2 hax ih ⊢
      obtain ⟨a1,b1⟩:=rJ (cs:=lcL) (ls:=flL) (y:=ls) hs
      obtain ⟨a2,b2,_⟩:=gX (x:=x.len - (lb:Nat)) a1 lx
      obtain ⟨a3,b3⟩:=rJ (cs:=dcL) (ls:=flD) (y:=ds) a2
      obtain ⟨a4,b4,_⟩:=gX (x:=x.dist - (db:Nat)) a3 dx
      have x3:=Agr.ext b4 hax
      have x2:=Agr.ext b3 x3
      have x1:=Agr.ext b2 x2
      rw [dP (JD (o:=o) hs (by omega) x1),if_neg (by omega),if_neg (by omega)]
      have r1:=tK (o:=o) a1 x2
      have r2:=Xp (o:=o) a2 (by omega) x3
      have r3:=tK (o:=o) a3 hax
      generalize bZ (jJ (bZ (jJ s lcL flL ls) (x.len - (lb:Nat)) lx) dcL flD ds) (x.dist - (db:Nat)) dx = s4 at *
      generalize jJ (bZ (jJ s lcL flL ls) (x.len - (lb:Nat)) lx) dcL flD ds = s3 at *
      generalize bZ (jJ s lcL flL ls) (x.len - (lb:Nat)) lx = s2 at *
      generalize jJ s lcL flL ls = s1 at *
      have q1:(x.len - (lb:Nat)) % 2 ^ lx = x.len - (lb:Nat):=by
        have:(((2:Nat) ^ lx:Nat):Int) = 2 ^ lx:=by push_cast;rfl
        rw [← this]
        exact Int.emod_eq_of_lt (by omega) (by omega)
      have q2:(x.dist - (db:Nat)) % 2 ^ dx = x.dist - (db:Nat):=by
        have:(((2:Nat) ^ dx:Nat):Int) = 2 ^ dx:=by push_cast;rfl
        rw [← this]
        exact Int.emod_eq_of_lt (by omega) (by omega)
      rw [q1] at r1
      rw [q2] at r3
      have ais:C9 b mo yx ls s1.k o = .ok () s4.k (kF x.dist.toNat x.len.toNat o):=by
        unfold C9
        rw [if_neg (by omega),t2,dP r1,dP r2,if_neg (by omega),u2,dP r3,t1,u1]
        rw [show db + (x.dist - (db:Nat)).toNat = x.dist.toNat by omega,show ((lb:Nat) + (x.len - (lb:Nat)):Int).toNat = x.len.toNat by omega]
        unfold NK
        rw [if_neg (by omega)]
        exact Qw _ _ _ (by omega)
      rw [dP ais]
      exact ih
theorem Gd.nil:Gd ⟨0,[]⟩:=⟨rfl,fun i _=>by unfold iK;simp⟩
theorem Xt {F:Nat} {b out:List UInt8} {mo:Int} {l:List Px} (he:jO l [] = (out,0)) (ha:Agr b (FY l)) (hm:(out.length:Int)≤mo) (hF:l.length < F):∃ L,rP b mo F F 0 [] = .ok L (FY l).k out:=by
  obtain ⟨F,rfl⟩:∃ g,F = g + 1:=⟨F - 1,by omega⟩
  unfold FY at ha ⊢
  obtain ⟨a1,b1,_⟩:=gX (x:=1) Gd.nil 1
  obtain ⟨a2,b2,_⟩:=gX (x:=1) a1 2
  obtain ⟨a3,b3⟩:=JE l a2
  have x3:=Agr.ext (rJ a3).2 ha
  have x2:=Agr.ext b3 x3
  have x1:=Agr.ext b2 x2
  have r1:=tK (o:=[]) Gd.nil x1
  have r2:=tK (o:=[]) a1 x2
  have r3:=OI (mo:=mo) l _ [] out (F + 1) a2 he ha hF hm
  have hbl:Iq b mo (F + 1) 0 [] = .ok ⟨1,true,0,out.length⟩ (jJ (l.foldl pxW (bZ (bZ ⟨0,[]⟩ 1 1) 1 2)) lcL flL 256).k out:=by
    unfold Iq
    rw [dP r1,dP r2]
    have hk:Df b mo (F + 1) (1 % 2 ^ 2) = qQ b mo zy yx (F + 1):=by unfold Df;rw [if_neg (by decide),if_pos (by decide)]
    rw [hk,dP r3]
    rfl
  refine ⟨[⟨1,true,0,out.length⟩],?_⟩
  unfold rP
  rw [dP hbl,if_pos rfl]
  rfl
theorem Qx {F:Nat} {b out:List UInt8} {mo:Int} {k:Nat} (h:∃ L,rP b mo F F 0 [] = .ok L k out) (hm:(out.length:Int)≤mo):Ko F b mo = (out,(((k + 7) / 8:Nat):Int),0):=by
  obtain ⟨L,h⟩:=h
  unfold Ko
  rw [if_neg (by omega),h]
end Go.Proofs.Yteblpjhkgdpchaa
namespace Go.Proofs.Yteblpjhkgdpchaa
open Go.AM
theorem Xu {s:Ws} {cs ls:List Int} {y:Nat} (h:jK s) (hk:1≤s.k):(jJ s cs ls y).o ≠ []:=by
  obtain ⟨h1,h2⟩:=jV (cs:=cs) (ls:=ls) (y:=y) h
  intro e
  unfold jK at h1
  rw [e] at h1
  simp at h1
  omega
theorem Xv {l:List Px} (hm:∀ x ∈ l,mV x = true):(FY l).o ≠ []:=by
  unfold FY
  have h0:jK ⟨0,[]⟩:=rfl
  obtain ⟨h1,h2⟩:=dQ (x:=1) h0 1
  obtain ⟨h3,h4⟩:=dQ (x:=1) h1 2
  obtain ⟨h5,h6⟩:=D6 l _ h3 hm
  have hmono:∀ (l:List Px) (s:Ws),jK s→(∀ x ∈ l,mV x = true)→s.k≤(l.foldl pxW s).k:=by
    intro l
    induction l with
    | nil=>intro s _ _;exact Nat.le_refl _
    | cons x l ih =>
      intro s hs hm
      obtain ⟨h1,_⟩:=NC hs (hm x (List.mem_cons_self ..))
      refine Nat.le_trans ?_ (ih (pxW s x) h1 fun y hy=>hm y (List.mem_cons_of_mem _ hy))
      unfold pxW
      split
      · have:=(jV (cs:=lcL) (ls:=flL) (y:=x.byte.toNat) hs).2
        omega
      · have a1:=jV (cs:=lcL) (ls:=flL) (y:=(lenOf x.len.toNat).1) hs
        have a2:=dQ (x:=x.len - ((lenOf x.len.toNat).2.1:Nat)) a1.1 (lenOf x.len.toNat).2.2
        have a3:=jV (cs:=dcL) (ls:=flD) (y:=(dZ x.dist.toNat).1) a2.1
        have a4:=dQ (x:=x.dist - ((dZ x.dist.toNat).2.1:Nat)) a3.1 (dZ x.dist.toNat).2.2
        have b1:=a1.2;have b2:=a2.2;have b3:=a3.2;have b4:=a4.2
        omega
  have:=hmono l _ h3 hm
  exact Xu h5 (by omega)
theorem Qy {H:AM.Heap} {o:Nat} {l:List Int} (h:H[o]? = some (some (flO l))):eP H (.sl o 0 l.length 0) = some (.pi .i64 l):=by
  simp [eP,live,h,flO,jA]
theorem ait:lW X 46 [] = some (.agg (.pc [.ro 0 .pn 0,.int .i64 0])):=by kernel_rfl
def fiX (l:List Px) (fr:AM.Frame) (E:AM.Heap):Prop:=∃ a g ob,ay fr 2 = .sl a 0 (nJ l).1.length g∧ay fr 3 = .int .i64 (nJ l).2∧E[a]? = some (some ob)∧Rw (.pb (nJ l).1) g ob
section
variable {c:Nat} {l:List Px}
theorem OJ {m:Nat} (hl:l.length≤2000):∃ code,Try.f22.body = some code∧aj (rM (fiX l)) X (evT X) 22 m code [(0,.ro c (.pr 3 (l.map pxR)) 1)] []:=by
  refine ⟨_,rfl,?_⟩
  obtain ⟨obE,hwE,hEx⟩:=Gm (H:=[some (⟨.pb [],0,none,0,true,false,0⟩:AM.Obj)]) (a:=.ro c (.pr 3 (l.map pxR)) 1) (l:=l) rfl hl
  have hmay:=Ip (l:=l) (o:=[])
  unfold fiX nJ
  generalize hex:jO l [] = r at *
  obtain ⟨o,e⟩:=r
  simp only at hEx hmay ⊢
  apply aj.seq (fr':=[(0,.ro c (.pr 3 (l.map pxR)) 1)]) (H':=[some (⟨.pb [],0,none,0,true,false,0⟩:AM.Obj)])
  · generalize l.map pxR = R at *
    (refine ⟨0,?_⟩;simp (maxSteps:=2000000) -implicitDefEqProofs [-getElem?_pos,go_sem,eqV,ah,ak,rowOf,QU])
  apply aj.assoc
  apply aj.seq (fr':=[(0,.ro c (.pr 3 (l.map pxR)) 1),(5,.int .i64 e)]) (H':=[some (⟨.pb [],0,none,0,true,false,0⟩:AM.Obj),some obE])
  · simp only [List.length_singleton,List.singleton_append] at hEx
    generalize l.map pxR = R at *
    generalize o.length = K at *
    (refine ⟨0,?_⟩;simp (maxSteps:=2000000) -implicitDefEqProofs [-getElem?_pos,go_sem,eqV,ah,hEx,ak])
  apply aj.assoc
  by_cases he:¬ e = 0
  · have heb:(e != 0) = true:=by simpa using he
    rw [if_pos he]
    refine aj.of (o:=⟨.ret,[(2,.sl 2 0 0 0),(3,.int .i64 e)],[some (⟨.pb [],0,none,0,true,false,0⟩:AM.Obj),some obE,some (⟨.pb [],0,none,0,true,false,0⟩:AM.Obj)]⟩) ?_ ⟨rfl,2,0,_,rfl,rfl,rfl,⟨rfl,rfl,rfl,rfl,rfl⟩⟩
    apply Run.seq (fr':=[(0,.ro c (.pr 3 (l.map pxR)) 1),(5,.int .i64 e),(24,.bool true)]) (H':=[some (⟨.pb [],0,none,0,true,false,0⟩:AM.Obj),some obE])
    · generalize l.map pxR = R at *
      (refine ⟨0,?_⟩;simp (maxSteps:=2000000) -implicitDefEqProofs [-getElem?_pos,go_sem,eqV,ah,he,heb])
    refine Run.bG ?_ (by simp)
    refine Run.cond (d:=true) (by simp [aJ,ay]) ?_
    apply Run.seq (fr':=[(2,.sl 2 0 0 0),(3,.int .i64 e)]) (H':=[some (⟨.pb [],0,none,0,true,false,0⟩:AM.Obj),some obE,some (⟨.pb [],0,none,0,true,false,0⟩:AM.Obj)])
    · generalize l.map pxR = R at *
      (refine ⟨0,?_⟩;simp (maxSteps:=2000000) -implicitDefEqProofs [-getElem?_pos,go_sem,eqV,ah,ak,rowOf,QU])
    · exact ⟨0,rfl⟩
  have he:e = 0:=Classical.not_not.1 he
  subst he
  rw [if_neg (by simp)]
  simp only
  have hm:=hmay rfl
  apply aj.seq (fr':=[(0,.ro c (.pr 3 (l.map pxR)) 1),(5,.int .i64 0),(24,.bool false)]) (H':=[some (⟨.pb [],0,none,0,true,false,0⟩:AM.Obj),some obE])
  · generalize l.map pxR = R at *
    (refine ⟨0,?_⟩;simp (maxSteps:=2000000) -implicitDefEqProofs [-getElem?_pos,go_sem,eqV,ah])
  apply aj.seq (fr':=[(0,.ro c (.pr 3 (l.map pxR)) 1),(5,.int .i64 0),(24,.bool false)]) (H':=[some (⟨.pb [],0,none,0,true,false,0⟩:AM.Obj),some obE])
  · exact Run.cond (d:=false) (by simp [aJ,ay]) ⟨0,rfl⟩
  have hF:=aex [some (⟨.pb [],0,none,0,true,false,0⟩:AM.Obj),some obE]
  have hC1:=Pg (H:=[some (⟨.pb [],0,none,0,true,false,0⟩:AM.Obj),some obE,some (flO flL),some (flO flD)]) (a:=.sl 2 0 288 0) (l:=flL) (by have:=Qy (H:=[some (⟨.pb [],0,none,0,true,false,0⟩:AM.Obj),some obE,some (flO flL),some (flO flD)]) (o:=2) (l:=flL) rfl;rwa [qU] at this) Yn
  have hC2:=Pg (H:=[some (⟨.pb [],0,none,0,true,false,0⟩:AM.Obj),some obE,some (flO flL),some (flO flD),nG 288 lcL]) (a:=.sl 3 0 32 0) (l:=flD) (by have:=Qy (H:=[some (⟨.pb [],0,none,0,true,false,0⟩:AM.Obj),some obE,some (flO flL),some (flO flD),nG 288 lcL]) (o:=3) (l:=flD) rfl;rwa [Dp] at this) Yo
  rw [qU] at hC1
  rw [Dp] at hC2
  simp only [List.length_cons,List.length_nil,List.cons_append,List.nil_append] at hF hC1 hC2
  change evT X _ _ _ = some (_,[_,_,_,_,nG 288 lcL]) at hC1
  change evT X _ _ _ = some (_,[_,_,_,_,_,nG 32 dcL]) at hC2
  have hV:FxV [some (⟨.pb [],0,none,0,true,false,0⟩:AM.Obj),some obE,some (flO flL),some (flO flD),nG 288 lcL,nG 32 dcL,some (jr ⟨0,[]⟩ (.ro 0 .pn 0) 0)] 2 3 4 5 6 none ⟨0,[]⟩:=⟨rfl,rfl,rfl,rfl,⟨⟨_,0,.inl rfl,rfl,rfl,0,.inl rfl,rfl⟩,fun a h=>by cases h⟩,by omega,fun a h=>(by cases h),rfl⟩
  generalize nG 288 lcL = r8 at *
  generalize nG 32 dcL = r10 at *
  generalize some (flO flL) = r6 at *
  generalize some (flO flD) = r7 at *
  generalize some (⟨.pb [],0,none,0,true,false,0⟩:AM.Obj) = r0 at *
  apply aj.seq (fr':=[(0,.ro c (.pr 3 (l.map pxR)) 1),(6,.sl 2 0 288 0),(7,.sl 3 0 32 0)]) (H':=[r0,some obE,r6,r7])
  · generalize l.map pxR = R at *
    (refine ⟨0,?_⟩;simp (maxSteps:=2000000) -implicitDefEqProofs [-getElem?_pos,go_sem,eqV,ah,hF,ak])
  apply aj.seq (fr':=[(0,.ro c (.pr 3 (l.map pxR)) 1),(6,.sl 2 0 288 0),(7,.sl 3 0 32 0),(8,.sl 4 0 288 0)]) (H':=[r0,some obE,r6,r7,r8])
  · generalize l.map pxR = R at *
    (refine ⟨0,?_⟩;simp (maxSteps:=2000000) -implicitDefEqProofs [-getElem?_pos,go_sem,eqV,ah,hC1,ak])
  apply aj.seq (fr':=[(0,.ro c (.pr 3 (l.map pxR)) 1),(6,.sl 2 0 288 0),(7,.sl 3 0 32 0),(8,.sl 4 0 288 0),(10,.sl 5 0 32 0)]) (H':=[r0,some obE,r6,r7,r8,r10])
  · generalize l.map pxR = R at *
    (refine ⟨0,?_⟩;simp (maxSteps:=2000000) -implicitDefEqProofs [-getElem?_pos,go_sem,eqV,ah,hC2,ak])
  apply aj.seq (fr':=[(0,.ro c (.pr 3 (l.map pxR)) 1),(6,.sl 2 0 288 0),(7,.sl 3 0 32 0),(8,.sl 4 0 288 0),(10,.sl 5 0 32 0),(12,.ptr 6 0 0 0)]) (H':=[r0,some obE,r6,r7,r8,r10,some (jr ⟨0,[]⟩ (.ro 0 .pn 0) 0)])
  · simp only [jr]
    generalize l.map pxR = R at *
    (refine ⟨0,?_⟩;simp (maxSteps:=2000000) -implicitDefEqProofs [-getElem?_pos,go_sem,eqV,ah,ait,ak])
  clear hC1 hC2 hF hEx
  generalize [r0,some obE,r6,r7,r8,r10,some (jr ⟨0,[]⟩ (.ro 0 .pn 0) 0)] = E0 at *
  obtain ⟨E1,oa1,g1,g2,g3⟩:=nM (x:=1) (I:=1) (n:=1) rfl hV.wr hV.ok (by simp) (by omega)
  have hV1:=hV.step g2 g3 (dQ hV.ok 1).1
  apply aj.seq (fr':=[(0,.ro c (.pr 3 (l.map pxR)) 1),(6,.sl 2 0 288 0),(7,.sl 3 0 32 0),(8,.sl 4 0 288 0),(10,.sl 5 0 32 0),(12,.ptr 6 0 0 0)]) (H':=E1)
  · generalize l.map pxR = R at *
    (refine ⟨0,?_⟩;simp (maxSteps:=2000000) -implicitDefEqProofs [-getElem?_pos,go_sem,eqV,ah,g1])
  have k1:=(dQ (x:=1) hV.ok 1).2
  obtain ⟨E2,oa2,g4,g5,g6⟩:=nM (x:=1) (I:=2) (n:=2) rfl hV1.wr hV1.ok (by rw [k1];simp) (by omega)
  have hV2:=hV1.step g5 g6 (dQ hV1.ok 2).1
  have k2:=(dQ (x:=1) hV1.ok 2).2
  apply aj.seq (fr':=[(0,.ro c (.pr 3 (l.map pxR)) 1),(6,.sl 2 0 288 0),(7,.sl 3 0 32 0),(8,.sl 4 0 288 0),(10,.sl 5 0 32 0),(12,.ptr 6 0 0 0)]) (H':=E2)
  · generalize l.map pxR = R at *
    (refine ⟨0,?_⟩;simp (maxSteps:=2000000) -implicitDefEqProofs [-getElem?_pos,go_sem,eqV,ah,g4])
  apply aj.assoc
  apply aj.seq (fr':=nK 2 3 4 5 6 c l 0) (H':=E2)
  · have hll:(l.map pxR).length = l.length:=by simp
    simp only [nK]
    generalize l.map pxR = R at *
    generalize l.length = N at *
    (refine ⟨0,?_⟩;simp (maxSteps:=2000000) -implicitDefEqProofs [-getElem?_pos,go_sem,eqV,ah,hll])
  have hk3:(bZ (bZ ⟨0,[]⟩ 1 1) 1 2).k≤100:=by rw [k2,k1];simp
  apply aj.andThen (piece (Wh (m:=m) (c:=c) hV2 hk3 hl hm) _ rfl)
  rintro fr E3 ⟨oa3,rfl,hV3⟩
  have hk4:=(D6 l _ hV2.ok hm).2
  obtain ⟨E4,oa4,hV4,aiu⟩:=Yy (m:=m) (c:=c) (i:=l.length) (l:=l) (tl:=[(49,.bool false)]) hV3 (by omega)
  apply aj.seq (piece aiu _ rfl)
  have hne:=Xv hm
  unfold FY at hne ⊢
  obtain ⟨a,g,ob,q1,q2,aiv⟩:=Yz (m:=m) hV4 hne
  generalize (jJ (l.foldl pxW (bZ (bZ ⟨0,[]⟩ 1 1) 1 2)) lcL flL 256).o = B at *
  apply aj.seq (piece aiv _ rfl)
  exact aj.of (o:=⟨.ret,[(2,.sl a 0 B.length g),(3,.int .i64 0)],E4⟩) ⟨0,rfl⟩ ⟨rfl,a,g,ob,rfl,rfl,q1,q2⟩
theorem SV {H:AM.Heap} {a:AV} (ha:eP H a = some (.pr 3 (l.map pxR))) (hl:l.length≤2000):∃ ob,Rw (.pb (nJ l).1) 0 ob∧evT X 22 [a] H = some (.tup [.sl H.length 0 (nJ l).1.length 0,.int .i64 (nJ l).2],H ++ [some ob]):=by
  obtain ⟨c,x,hx⟩:=iR (C:=X) (f:=22) (i:=0) rfl ha (gq 1)
  obtain ⟨code,hc,⟨out,⟨ho,a2,g,ob,h2,h3,h4,hw⟩,hrun⟩⟩:=OJ (m:=0) (c:=c) (l:=l) hl
  obtain ⟨ob',q1,q2⟩:=Ev1.V3 (C:=X) (H:=H) (dL X) (n:=(nJ l).1.length) (l:=(nJ l).1) (rest:=[.int .i64 (nJ l).2]) Try.func22 hc hx rfl (by simp [dM]) rfl rfl rfl (by
    rw [aa4]
    refine ⟨out,⟨ho,a2,g,ob,?_,h4,hw⟩,hrun⟩
    show aQ X out.fr out.H [.tmp 2,.tmp 3] = _
    simp [aQ,h2,h3])
  exact ⟨ob',q1,fK (by simpa [aO,fJ] using q2)⟩
end
end Go.Proofs.Yteblpjhkgdpchaa
namespace Go.Proofs.Yteblpjhkgdpchaa
open Go.AM
def yT (b:List UInt8):Ws:=bZ (bZ ⟨8,(bZ ⟨0,[]⟩ 1 3).o⟩ (b.length:Nat) 16) (-(b.length:Int) - 1) 16
def iw (b:List UInt8):List UInt8:=(yT b).o ++ b
theorem f13:(bZ ⟨0,[]⟩ 1 3) = ⟨3,[1]⟩:=by kernel_rfl
theorem aiw:lW X 46 [] = some (.agg (.pc [.ro 0 .pn 0,.int .i64 0])):=by kernel_rfl
theorem abm:bM X 5 = .pb []:=by kernel_rfl
theorem aix {L:Nat} (h:L≤65535):IntKind.i64.wrap ((AM.bits .i64 (if IntKind.i64.signed = true then -1 else 9223372036854775807) ^^^ AM.bits .i64 (L:Int)).toNat:Nat) = -(L:Int) - 1:=by
  have e1:AM.bits .i64 (if IntKind.i64.signed = true then -1 else 9223372036854775807) = BitVec.allOnes 64:=by kernel_rfl
  have e2:(BitVec.ofInt 64 (L:Int)).toNat = L:=by
    rw [BitVec.toNat_ofInt]
    show ((L:Int) % 18446744073709551616).toNat = L
    omega
  have e3:(AM.bits .i64 (if IntKind.i64.signed = true then -1 else 9223372036854775807) ^^^ AM.bits .i64 (L:Int)).toNat = 18446744073709551615 - L:=by
    rw [e1]
    show (BitVec.allOnes 64 ^^^ BitVec.ofInt 64 (L:Int)).toNat = _
    rw [BitVec.allOnes_xor,BitVec.toNat_not,e2]
  rw [e3]
  have e4:((18446744073709551615 - L:Nat):Int) = 18446744073709551615 - (L:Int):=by omega
  rw [e4]
  unfold IntKind.wrap
  simp [IntKind.bits,IntKind.signed]
  omega
section
variable {c:Nat} {b:List UInt8} {E:AM.Heap} {oa:Option Nat} {s:Ws}
def uS (c:Nat) (b:List UInt8):AM.Frame:=[(0,.ro c (.pb b) 1),(3,.ptr 1 0 0 0),(4,.int .i64 (b.length:Nat)),(5,.int .i64 1)]
theorem abn {m:Nat} (h:WrV 0 E 1 oa s) (hne:s.o ≠ []) (hl:s.o.length≤1000000):∃ E',WrV 0 E' 1 oa ⟨s.o.length * 8,s.o⟩∧∃ code,((Try.f13.body).bind (aI [1,1,0,0,0,1,1,1,1,0])) = some code∧Run X (evT X) 13 m code (uS c b) E ⟨.normal,uS c b,E'⟩:=by
  obtain ⟨⟨vo,τ,a1,h0,ho⟩,hn⟩:=id h
  cases oa with
  | none=>exact absurd ho.1 hne
  | some a =>
    refine ⟨AM.upd E 1 (some (jr ⟨s.o.length * 8,s.o⟩ vo τ)),WrV.set hn a1 (eX h0) ho,_,rfl,?_⟩
    obtain ⟨g,τ2,ob,hτ2,rfl,h3,h4⟩:=ho
    have hg:=h4.g
    have w1:IntKind.i64.wrap ((s.o.length:Int) * 8) = ((s.o.length * 8:Nat):Int):=by rw [wrap_i64 (by omega) (by omega)];omega
    simp only [jr,uS] at h0 ⊢
    generalize s.o.length * 8 = k8 at *
    generalize s.o.length = N at *
    generalize b.length = L at *
    (refine ⟨0,?_⟩;simp (maxSteps:=2000000) -implicitDefEqProofs [-getElem?_pos,go_sem,eqV,ah,h0,h3,hg,w1])
theorem Y8 {m:Nat} (h:WrV 0 E 1 oa s) (hne:s.o ≠ []) (hl:s.o.length≤1000000):∃ E',WrV 0 E' 1 oa ⟨s.o.length * 8,s.o⟩∧∃ code,((Try.f13.body).bind (aI [1,1,0,0,0,1,1,1,1,1,1,1,1,0])) = some code∧Run X (evT X) 13 m code (uS c b) E ⟨.normal,uS c b,E'⟩:=by
  obtain ⟨⟨vo,τ,a1,h0,ho⟩,hn⟩:=id h
  cases oa with
  | none=>exact absurd ho.1 hne
  | some a =>
    refine ⟨AM.upd E 1 (some (jr ⟨s.o.length * 8,s.o⟩ vo τ)),WrV.set hn a1 (eX h0) ho,_,rfl,?_⟩
    obtain ⟨g,τ2,ob,hτ2,rfl,h3,h4⟩:=ho
    have hg:=h4.g
    have w1:IntKind.i64.wrap ((s.o.length:Int) * 8) = ((s.o.length * 8:Nat):Int):=by rw [wrap_i64 (by omega) (by omega)];omega
    simp only [jr,uS] at h0 ⊢
    generalize s.o.length * 8 = k8 at *
    generalize s.o.length = N at *
    generalize b.length = L at *
    (refine ⟨0,?_⟩;simp (maxSteps:=2000000) -implicitDefEqProofs [-getElem?_pos,go_sem,eqV,ah,h0,h3,hg,w1])
theorem Y9 {m:Nat} (h:WrV 0 E 1 oa s) (hne:s.o ≠ []) (hl:s.o.length≤1000000) (hb:b.length≤65535):∃ E',WrV 0 E' 1 oa ⟨s.k,s.o ++ b⟩∧∃ code,((Try.f13.body).bind (aI [1,1,0,0,0,1,1,1,1,1,1,1,0])) = some code∧Run X (evT X) 13 m code (uS c b) E ⟨.normal,uS c b,E'⟩:=by
  obtain ⟨⟨vo,τ,a1,h0,ho⟩,hn⟩:=id h
  cases oa with
  | none=>exact absurd ho.1 hne
  | some a =>
    obtain ⟨g,τ2,ob,hτ2,rfl,h3,h4⟩:=ho
    obtain ⟨ob',w1,w2⟩:=Jt (C:=X) (T:=28) (e:=5) (src:=.ro (if c = 0 then 0 else 2) (.pb b) 1) (m:=b) zf TB DR bytes5 Ns h3 h4 (.inl (by simp [mW,qx,sN])) (by omega)
    have h0':(upd E a (some ob'))[1]? = some (some (jr s (.sl a 0 s.o.length g) τ)):=vJ h0 (hn a rfl)
    refine ⟨AM.upd (upd E a (some ob')) 1 (some (jr ⟨s.k,s.o ++ b⟩ (.sl a 0 (s.o.length + b.length) (g + 1)) τ)),WrV.set hn a1 (eX h0') ⟨g + 1,τ2,ob',hτ2,by simp,setAt h3,w1⟩,_,rfl,?_⟩
    have ht:b.take b.length = b:=List.take_length
    have hz:jA (.pb b) 0 b.length = some (.pb b):=by simp [jA]
    simp only [jr,uS] at h0 h0' ⊢
    generalize upd E a (some ob') = E1 at *
    generalize s.o.length + b.length = N2 at *
    generalize s.o.length = N at *
    generalize hL:b.length = L at *
    (refine ⟨0,?_⟩;simp (maxSteps:=2000000) -implicitDefEqProofs [-getElem?_pos,go_sem,eqV,ah,h0,h0',w2,uP,bound,jA,hL,ht,hz])
theorem SX (s:Ws) (x:Int):s.o.length≤(pO s x).o.length:=by
  unfold pO
  simp only [List.length_set]
  split <;> simp
theorem wO (s:Ws) (x:Int):∀ n,s.o.length≤(bZ s x n).o.length
  | 0=>Nat.le_refl _
  | n + 1=>Nat.le_trans (wO s x n) (SX _ _)
theorem JG {m:Nat} (hb:b.length≤65535):∃ code,Try.f13.body = some code∧aj (rM fun fr E=>∃ a g ob,ay fr 2 = .sl a 0 (iw b).length g∧E[a]? = some (some ob)∧Rw (.pb (iw b)) g ob) X (evT X) 13 m code [(0,.ro c (.pb b) 1)] []:=by
  refine ⟨_,rfl,?_⟩
  apply aj.seq (fr':=[(0,.ro c (.pb b) 1)]) (H':=[some (⟨.pb [],0,none,0,true,false,0⟩:AM.Obj)])
  · (refine ⟨0,?_⟩;simp (maxSteps:=2000000) -implicitDefEqProofs [-getElem?_pos,go_sem,eqV,ah,ak,rowOf,abm])
  apply aj.seq (fr':=[(0,.ro c (.pb b) 1),(3,.ptr 1 0 0 0)]) (H':=[some (⟨.pb [],0,none,0,true,false,0⟩:AM.Obj),some (jr ⟨0,[]⟩ (.ro 0 .pn 0) 0)])
  · simp only [jr]
    (refine ⟨0,?_⟩;simp (maxSteps:=2000000) -implicitDefEqProofs [-getElem?_pos,go_sem,eqV,ah,aiw,ak])
  have hV:WrV 0 [some (⟨.pb [],0,none,0,true,false,0⟩:AM.Obj),some (jr ⟨0,[]⟩ (.ro 0 .pn 0) 0)] 1 none ⟨0,[]⟩:=⟨⟨_,0,.inl rfl,rfl,rfl,0,.inl rfl,rfl⟩,fun a h=>by cases h⟩
  generalize [some (⟨.pb [],0,none,0,true,false,0⟩:AM.Obj),some (jr ⟨0,[]⟩ (.ro 0 .pn 0) 0)] = E0 at *
  have hI:(b.length:Int)≤65535:=by omega
  refine aj.blk ?_ (fun o ho=>by rw [ho.1];simp)
  refine aj.kG (I:=fun k fr E=>k = 0∧fr = [(0,.ro c (.pb b) 1),(3,.ptr 1 0 0 0)]∧E = E0) ?_ (k:=0) ⟨rfl,rfl,rfl⟩
  rintro k fr E ⟨rfl,rfl,rfl⟩
  suffices hT:aj (rM fun fr E=>∃ a g ob,ay fr 2 = .sl a 0 (iw b).length g∧E[a]? = some (some ob)∧Rw (.pb (iw b)) g ob) X (evT X) 13 m _ [(0,.ro c (.pb b) 1),(3,.ptr 1 0 0 0)] E from hT.mono fun o ho=>.inr ⟨by rw [ho.1];simp,ho⟩
  refine aj.blk ?_ (fun o ho=>by rw [ho.1];simp)
  apply aj.seq (fr':=[(0,.ro c (.pb b) 1),(3,.ptr 1 0 0 0),(4,.int .i64 (b.length:Nat))]) (H':=E)
  · have hI2:¬ (65535:Int) < (b.length:Int):=by omega
    have hI3:¬ 65535 < b.length:=by omega
    generalize hL:b.length = L at *
    (refine ⟨0,?_⟩;simp (maxSteps:=2000000) -implicitDefEqProofs [-getElem?_pos,go_sem,eqV,ah,pI,ak,hI,hI2,hI3,hL])
  apply aj.seq (fr':=[(0,.ro c (.pb b) 1),(3,.ptr 1 0 0 0),(4,.int .i64 (b.length:Nat)),(5,.int .i64 0)]) (H':=E)
  · generalize hL:b.length = L at *
    (refine ⟨0,?_⟩;simp (maxSteps:=2000000) -implicitDefEqProofs [-getElem?_pos,go_sem,eqV,ah,ak])
  apply aj.assoc
  apply aj.seq (fr':=[(0,.ro c (.pb b) 1),(3,.ptr 1 0 0 0),(4,.int .i64 (b.length:Nat)),(5,.int .i64 0),(14,.bool true)]) (H':=E)
  · generalize hL:b.length = L at *
    (refine ⟨0,?_⟩;simp (maxSteps:=2000000) -implicitDefEqProofs [-getElem?_pos,go_sem,eqV,ah,hL])
  apply aj.seq (fr':=uS c b) (H':=E)
  · refine Run.cond (d:=true) (by simp [aJ,ay]) ?_
    simp only [uS]
    generalize hL:b.length = L at *
    (refine ⟨0,?_⟩;simp (maxSteps:=2000000) -implicitDefEqProofs [-getElem?_pos,go_sem,eqV,ah,ak])
  obtain ⟨E1,oa1,g1,g2,g3⟩:=nM (x:=1) (I:=3) (n:=3) rfl hV rfl (by simp) (by omega)
  apply aj.seq (fr':=uS c b) (H':=E1)
  · simp only [uS]
    generalize hL:b.length = L at *
    (refine ⟨0,?_⟩;simp (maxSteps:=2000000) -implicitDefEqProofs [-getElem?_pos,go_sem,eqV,ah,g1])
  have ho1:(bZ ⟨0,[]⟩ 1 3).o = [1]:=by rw [f13]
  obtain ⟨E2,hV2,hr7⟩:=abn (m:=m) (c:=c) (b:=b) g2 (by rw [ho1];simp) (by rw [ho1];simp)
  apply aj.seq (piece hr7 _ rfl)
  have e8:(bZ ⟨0,[]⟩ 1 3).o.length * 8 = 8:=by rw [ho1];rfl
  rw [e8] at hV2
  have hok2:jK ⟨8,(bZ ⟨0,[]⟩ 1 3).o⟩:=by unfold jK;rw [ho1];rfl
  obtain ⟨E3,oa3,g4,g5,g6⟩:=nM (x:=(b.length:Nat)) (I:=16) (n:=16) rfl hV2 hok2 (by simp) (by omega)
  have k3:=dQ (x:=(b.length:Nat)) hok2 16
  apply aj.seq (fr':=uS c b) (H':=E3)
  · simp only [uS]
    generalize hL:b.length = L at *
    (refine ⟨0,?_⟩;simp (maxSteps:=2000000) -implicitDefEqProofs [-getElem?_pos,go_sem,eqV,ah,g4])
  obtain ⟨E4,oa4,g7,g8,g9⟩:=nM (x:=-(b.length:Int) - 1) (I:=16) (n:=16) rfl g5 k3.1 (by rw [k3.2];simp) (by omega)
  have k4:=dQ (x:=-(b.length:Int) - 1) k3.1 16
  apply aj.seq (fr':=uS c b) (H':=E4)
  · simp only [uS]
    have wx:IntKind.i64.wrap (-(b.length:Int) - 1) = -(b.length:Int) - 1:=by rw [wrap_i64 (by omega) (by omega)]
    have wx2:IntKind.i64.wrap (-1 - (b.length:Int)) = -(b.length:Int) - 1:=by rw [wrap_i64 (by omega) (by omega)];omega
    have wn:=aix hb
    simp only [go_sem] at wn
    generalize hL:b.length = L at *
    (refine ⟨0,?_⟩;simp (maxSteps:=2000000) -implicitDefEqProofs [-getElem?_pos,go_sem,eqV,ah,g7,wn])
  have abo:1≤(yT b).o.length:=by
    have m1:=wO ⟨8,(bZ ⟨0,[]⟩ 1 3).o⟩ (b.length:Nat) 16
    have m2:=wO (bZ ⟨8,(bZ ⟨0,[]⟩ 1 3).o⟩ (b.length:Nat) 16) (-(b.length:Int) - 1) 16
    have m0:(bZ ⟨0,[]⟩ 1 3).o.length = 1:=by rw [ho1];rfl
    unfold yT
    simp only at m1 m2
    omega
  have hk5:(yT b).o.length = 5:=by
    have:=k4.1
    unfold jK at this
    unfold yT
    rw [this,k4.2,k3.2]
    rfl
  have hne:(yT b).o ≠ []:=fun e=>by rw [e] at abo;simp at abo
  have g8':WrV 0 E4 1 oa4 (yT b):=g8
  obtain ⟨E5,hV5,aiy⟩:=Y9 (m:=m) (c:=c) (b:=b) g8' hne (by omega) hb
  apply aj.seq (piece aiy _ rfl)
  obtain ⟨E6,hV6,aiz⟩:=Y8 (m:=m) (c:=c) (b:=b) hV5 (by simp [hne]) (by simp;omega)
  apply aj.seq (piece aiz _ rfl)
  simp only at hV6
  have Q5:∃ v,∃ code,((Try.f13.body).bind (aI [1,1,0,0,0,1,1,1,1,1,1,1,1,1,0])) = some code∧Run X (evT X) 13 m code (uS c b) E6 ⟨.normal,[(0,v),(3,.ptr 1 0 0 0),(5,.int .i64 1)],E6⟩:=by
    refine ⟨.ro (if c = 0 then 0 else c) (.pb []) 1,_,rfl,?_⟩
    have hd:b.drop b.length = []:=List.drop_of_length_le (Nat.le_refl _)
    simp only [uS]
    generalize hL:b.length = L at *
    (refine ⟨0,?_⟩;simp (maxSteps:=2000000) -implicitDefEqProofs [-getElem?_pos,go_sem,eqV,ah,uP,bound,jA,hL,hd,ak])
  obtain ⟨v12,Q5⟩:=Q5
  apply aj.seq (piece Q5 _ rfl)
  apply aj.seq (fr':=[(0,v12),(3,.ptr 1 0 0 0),(58,.bool true)]) (H':=E6)
  · (refine ⟨0,?_⟩;simp (maxSteps:=2000000) -implicitDefEqProofs [-getElem?_pos,go_sem,eqV,ah])
  refine aj.P5 (by simp [aJ,ay]) ?_
  obtain ⟨⟨vo,τ,a1,h0,ho⟩,hn⟩:=id hV6
  cases oa4 with
  | none=>exact absurd ho.1 (by simp [hne])
  | some a =>
    obtain ⟨g,τ2,ob,hτ2,rfl,h3,h4⟩:=ho
    have ht:τ2 = 0:=hτ2.elim id id
    have hst:(yT b).o ++ b = iw b:=rfl
    simp only [hst] at h0 h3 h4
    refine aj.of (o:=⟨.ret,[(2,.sl a 0 (iw b).length g)],E6⟩) ?_ ⟨rfl,a,g,ob,rfl,h3,⟨h4.p,h4.g,h4.row,h4.ids,by rw [h4.tg,ht]⟩⟩
    refine ⟨0,?_⟩
    simp only [jr] at h0
    generalize (iw b).length = N at *
    simp (maxSteps:=2000000) -implicitDefEqProofs [-getElem?_pos,go_sem,eqV,ah,h0,ak]
theorem yA {H:AM.Heap} {a:AV} (ha:eP H a = some (.pb b)) (hb:b.length≤65535):∃ ob,Rw (.pb (iw b)) 0 ob∧evT X 13 [a] H = some (.sl H.length 0 (iw b).length 0,H ++ [some ob]):=by
  obtain ⟨c,x,hx⟩:=iR (C:=X) (f:=13) (i:=0) rfl ha (gq 1)
  obtain ⟨code,hc,⟨out,⟨ho,a2,g,ob,h2,h4,hw⟩,hrun⟩⟩:=JG (m:=0) (c:=c) hb
  obtain ⟨ob',q1,q2⟩:=Ev1.V3 (C:=X) (H:=H) (dL X) (n:=(iw b).length) (l:=iw b) (rest:=[]) Try.func13 hc hx rfl (by simp [dM]) rfl rfl rfl (by
    rw [aa3]
    refine ⟨out,⟨ho,a2,g,ob,?_,h4,hw⟩,hrun⟩
    show aQ X out.fr out.H [.tmp 2] = _
    simp [aQ,h2])
  exact ⟨ob',q1,fK q2⟩
end
end Go.Proofs.Yteblpjhkgdpchaa
namespace Go.Proofs.Yteblpjhkgdpchaa
open Go.AM
def Gj (x:Pc):Px:=⟨(x.len:Nat),(x.dist:Nat),x.byte⟩
theorem Ui (L:List Pc):(L.map Gj).map pxR = L.map pcR:=by
  rw [List.map_map]
  rfl
def rQ (b:List UInt8):List Px:=(oU b b.length [] 0).map Gj
def iJ (b:List UInt8):List UInt8:=if (iw b).length < (nJ (rQ b)).1.length then iw b else (nJ (rQ b)).1
theorem zD (b:List UInt8):∀ (f:Nat) (M:Pls) (p:Nat),(oU b f M p).length≤f
  | 0,_,_=>Nat.le_refl _
  | f + 1,M,p=>by
    unfold oU
    split
    · have:=zD b f (JH b M p (max 1 (eG b M p).len)) (p + max 1 (eG b M p).len)
      simp
      omega
    · simp
theorem Uj {H:AM.Heap} {o g es:Nat} {ob:AM.Obj} {l:List AV} (ho:H[o]? = some (some ob)) (hw:Rw (.pr es l) g ob):eP H (.sl o 0 l.length g) = some (.pr es l):=by
  simp [eP,live,ho,hw.g,hw.ids,hw.p,jA]
section
variable {c:Nat} {b:List UInt8}
theorem JI {m:Nat} (hb:b.length≤1400):∃ code,Try.f12.body = some code∧aj (rM fun fr E=>∃ a g ob,ay fr 2 = .sl a 0 (iJ b).length g∧E[a]? = some (some ob)∧Rw (.pb (iJ b)) g ob) X (evT X) 12 m code [(0,.ro c (.pb b) 1)] []:=by
  refine ⟨_,rfl,?_⟩
  apply aj.seq (fr':=[(0,.ro c (.pb b) 1)]) (H':=[some (⟨.pb [],0,none,0,true,false,0⟩:AM.Obj)])
  · (refine ⟨0,?_⟩;simp (maxSteps:=2000000) -implicitDefEqProofs [-getElem?_pos,go_sem,eqV,ah,ak,rowOf,abm])
  obtain ⟨ob1,w1,e1⟩:=Gw (H:=[some (⟨.pb [],0,none,0,true,false,0⟩:AM.Obj)]) (a:=.ro c (.pb b) 1) (b:=b) rfl hb
  have hlen:=zD b b.length [] 0
  obtain ⟨ob2,w2,e2⟩:=SV (H:=[some (⟨.pb [],0,none,0,true,false,0⟩:AM.Obj),some ob1]) (a:=.sl 1 0 (oU b b.length [] 0).length 0) (l:=rQ b) (by
    unfold rQ
    rw [Ui]
    have:=Uj (H:=[some (⟨.pb [],0,none,0,true,false,0⟩:AM.Obj),some ob1]) (o:=1) rfl w1
    rwa [List.length_map] at this) (by unfold rQ;rw [List.length_map];omega)
  obtain ⟨ob3,w3,e3⟩:=yA (H:=[some (⟨.pb [],0,none,0,true,false,0⟩:AM.Obj),some ob1,some ob2]) (a:=.ro c (.pb b) 1) (b:=b) rfl (by omega)
  simp only [List.length_cons,List.length_nil,List.cons_append,List.nil_append] at e1 e2 e3
  unfold iJ
  have g2:=w2.g;have g3:=w3.g
  generalize hr0:some (⟨.pb [],0,none,0,true,false,0⟩:AM.Obj) = r0 at *
  apply aj.seq (fr':=[(0,.ro c (.pb b) 1),(3,.sl 2 0 (nJ (rQ b)).1.length 0)]) (H':=[r0,some ob1,some ob2])
  · generalize (oU b b.length [] 0).length = N1 at *
    generalize (nJ (rQ b)).1.length = N2 at *
    generalize (nJ (rQ b)).2 = er at *
    (refine ⟨0,?_⟩;simp (maxSteps:=2000000) -implicitDefEqProofs [-getElem?_pos,go_sem,eqV,ah,e1,e2,ak])
  apply aj.assoc
  apply aj.seq (fr':=[(3,.sl 2 0 (nJ (rQ b)).1.length 0),(5,.sl 3 0 (iw b).length 0)]) (H':=[r0,some ob1,some ob2,some ob3])
  · generalize (nJ (rQ b)).1.length = N2 at *
    generalize (iw b).length = N3 at *
    (refine ⟨0,?_⟩;simp (maxSteps:=2000000) -implicitDefEqProofs [-getElem?_pos,go_sem,eqV,ah,e3,ak])
  apply aj.assoc
  by_cases hlt:(iw b).length < (nJ (rQ b)).1.length
  · rw [if_pos hlt]
    have hI:((iw b).length:Int) < ((nJ (rQ b)).1.length:Int):=by omega
    refine aj.of (o:=⟨.ret,[(2,.sl 3 0 (iw b).length 0)],[r0,some ob1,some ob2,some ob3]⟩) ?_ ⟨rfl,3,0,ob3,rfl,rfl,w3⟩
    generalize (nJ (rQ b)).1.length = N2 at *
    generalize (iw b).length = N3 at *
    apply Run.seq (fr':=[(3,.sl 2 0 N2 0),(5,.sl 3 0 N3 0),(18,.bool true)]) (H':=[r0,some ob1,some ob2,some ob3])
    · (refine ⟨0,?_⟩;simp (maxSteps:=2000000) -implicitDefEqProofs [-getElem?_pos,go_sem,eqV,ah,g2,g3,hI,hlt])
    · refine ⟨0,?_⟩
      simp (maxSteps:=2000000) -implicitDefEqProofs [-getElem?_pos,go_sem,eqV,ah,ak]
  · rw [if_neg hlt]
    have hI:¬ ((iw b).length:Int) < ((nJ (rQ b)).1.length:Int):=by omega
    refine aj.of (o:=⟨.ret,[(2,.sl 2 0 (nJ (rQ b)).1.length 0)],[r0,some ob1,some ob2,some ob3]⟩) ?_ ⟨rfl,2,0,ob2,rfl,rfl,w2⟩
    generalize (nJ (rQ b)).1.length = N2 at *
    generalize (iw b).length = N3 at *
    apply Run.seq (fr':=[(3,.sl 2 0 N2 0),(5,.sl 3 0 N3 0),(18,.bool false)]) (H':=[r0,some ob1,some ob2,some ob3])
    · (refine ⟨0,?_⟩;simp (maxSteps:=2000000) -implicitDefEqProofs [-getElem?_pos,go_sem,eqV,ah,g2,g3,hI,hlt])
    · refine ⟨0,?_⟩
      simp (maxSteps:=2000000) -implicitDefEqProofs [-getElem?_pos,go_sem,eqV,ah,ak]
theorem Ei {H:AM.Heap} {a:AV} (ha:eP H a = some (.pb b)) (hb:b.length≤1400):∃ ob,Rw (.pb (iJ b)) 0 ob∧evT X 12 [a] H = some (.sl H.length 0 (iJ b).length 0,H ++ [some ob]):=by
  obtain ⟨c,x,hx⟩:=iR (C:=X) (f:=12) (i:=0) rfl ha (gq 1)
  obtain ⟨code,hc,⟨out,⟨ho,a2,g,ob,h2,h4,hw⟩,hrun⟩⟩:=JI (m:=0) (c:=c) hb
  obtain ⟨ob',q1,q2⟩:=Ev1.V3 (C:=X) (H:=H) (dL X) (n:=(iJ b).length) (l:=iJ b) (rest:=[]) Try.func12 hc hx rfl (by simp [dM]) rfl rfl rfl (by
    rw [aa2]
    refine ⟨out,⟨ho,a2,g,ob,?_,h4,hw⟩,hrun⟩
    show aQ X out.fr out.H [.tmp 2] = _
    simp [aQ,h2])
  exact ⟨ob',q1,fK q2⟩
end
end Go.Proofs.Yteblpjhkgdpchaa
namespace Go.Proofs.Yteblpjhkgdpchaa
open Go.AM
theorem Gd.one:Gd ⟨8,[1]⟩:=⟨rfl,fun i hi=>by
  unfold iK
  have:1≤i / 8:=by have hi':8≤i:=hi;omega
  obtain ⟨q,hq⟩:∃ q,i / 8 = q + 1:=⟨i / 8 - 1,by omega⟩
  simp only [hq]
  simp⟩
theorem Xw {B o:List UInt8} {x:UInt8} {j:Nat} (h:B[j]? = some x):fQ B 8 (8 * j) o = .ok (x.toNat:Nat) (8 * (j + 1)) o:=by
  have hj:j < B.length:=eX h
  have:=Fj (b:=B) (k:=8 * j) (o:=o) (x:=((x.toNat:Nat):Int)) 8 (by omega) (fun i hi=>by
    unfold iK
    have e1:(8 * j + i) / 8 = j:=by omega
    have e2:(8 * j + i) % 8 = i:=by omega
    rw [e1,e2,List.getD_eq_getElem?_getD,h]
    push_cast
    rfl)
  have hx:=x.toNat_lt
  have hm:((x.toNat:Nat):Int) % 2 ^ 8 = (x.toNat:Nat):=Int.emod_eq_of_lt (by omega) (by omega)
  rw [this,hm]
  rfl
theorem Qz {B b:List UInt8} {mo:Int} {d:Nat} (hB:∀ i,i < b.length→B[d + i]? = b[i]?) (hm:(b.length:Int)≤mo):∀ n i,i + n = b.length→qP (dD (fQ B 8) fun c=>pX mo (UInt8.ofNat c.toNat)) n (8 * (d + i)) (b.take i) = .ok () (8 * (d + b.length)) b
  | 0,i,h=>by
    have:i = b.length:=by omega
    subst this
    rw [List.take_length]
    rfl
  | n + 1,i,h=>by
    have hi:i < b.length:=by omega
    have hx:b[i]? = some b[i]:=List.getElem?_eq_getElem hi
    have h1:=Xw (o:=b.take i) (x:=b[i]) ((hB i hi).trans hx)
    have h2:pX mo (UInt8.ofNat (((b[i].toNat:Nat):Int)).toNat) (8 * (d + i + 1)) (b.take i) = .ok () (8 * (d + i + 1)) (b.take (i + 1)):=by
      unfold pX
      rw [if_pos (by rw [List.length_take];omega),List.take_add_one,hx]
      simp
    unfold qP
    rw [dP (by rw [dP h1];exact h2)]
    exact Qz hB hm n (i + 1) (by omega)
theorem Fq {b:List UInt8}:Gd (yT b)∧(yT b).k = 40∧(yT b).o.length = 5:=by
  unfold yT
  rw [f13]
  obtain ⟨a1,_,_⟩:=gX (x:=(b.length:Nat)) Gd.one 16
  obtain ⟨a2,_,_⟩:=gX (x:=-(b.length:Int) - 1) a1 16
  have k1:=(dQ (x:=(b.length:Nat)) Gd.one.ok 16).2
  have k2:=(dQ (x:=-(b.length:Int) - 1) a1.ok 16).2
  have hk:(bZ (bZ ⟨8,[1]⟩ (b.length:Nat) 16) (-(b.length:Int) - 1) 16).k = 40:=by rw [k2,k1]
  have:=a2.ok
  unfold jK at this
  exact ⟨a2,hk,by rw [this,hk]⟩
theorem vY (b:List UInt8):(iw b).length = b.length + 5:=by
  unfold iw
  rw [List.length_append,Fq.2.2]
  omega
theorem QA {F:Nat} {b r:List UInt8} {mo:Int} (hb:b.length≤65535) (hm:(b.length:Int)≤mo) (hF:0 < F):∃ L,rP (iw b ++ r) mo F F 0 [] = .ok L (8 * (iw b).length) b:=by
  obtain ⟨F,rfl⟩:∃ g,F = g + 1:=⟨F - 1,by omega⟩
  obtain ⟨w1,w2,w3⟩:=Fq (b:=b)
  have hlen:(iw b ++ r).length = 5 + b.length + r.length:=by rw [List.length_append,vY];omega
  have hag:Agr (iw b ++ r) (yT b):=⟨by rw [w2];omega,fun i hi=>by
    unfold iK iw
    rw [List.append_assoc,List.getD_eq_getElem?_getD,List.getElem?_append_left (by rw [w2] at hi;omega),← List.getD_eq_getElem?_getD]⟩
  have hB:∀ i,i < b.length→(iw b ++ r)[5 + i]? = b[i]?:=by
    intro i hi
    unfold iw
    rw [List.append_assoc,List.getElem?_append_right (by omega),w3,show 5 + i - 5 = i by omega,List.getElem?_append_left hi]
  have hs:yT b = bZ (bZ ⟨8,[1]⟩ (b.length:Nat) 16) (-(b.length:Int) - 1) 16:=by unfold yT;rw [f13]
  rw [vY]
  generalize iw b ++ r = B at *
  rw [hs] at hag w2
  obtain ⟨a1,b1,_⟩:=gX (x:=(b.length:Nat)) Gd.one 16
  obtain ⟨a2,b2,_⟩:=gX (x:=-(b.length:Int) - 1) a1 16
  have x1:=Agr.ext b2 hag
  have x0:=Agr.ext b1 x1
  have bits:∀ i,i < 8→iK B i = iK [1] i:=x0.at'
  have r1:fQ B 1 0 [] = .ok 1 1 []:=by
    have:=Fj (b:=B) (k:=0) (o:=[]) (x:=1) 1 (by omega) (fun i hi=>by
      have:i = 0:=by omega
      subst this
      rw [bits 0 (by omega)];rfl)
    exact this
  have r2:fQ B 2 1 [] = .ok 0 3 []:=by
    have:=Fj (b:=B) (k:=1) (o:=[]) (x:=0) 2 (by omega) (fun i hi=>by
      have:i = 0∨i = 1:=by omega
      rcases this with rfl | rfl
      · rw [bits 1 (by omega)];rfl
      · rw [bits 2 (by omega)];rfl)
    exact this
  have r3:=tK (o:=[]) Gd.one x1
  have r4:=tK (o:=[]) a1 hag
  rw [w2] at r4
  have e3:((b.length:Nat):Int) % 2 ^ 16 = (b.length:Nat):=Int.emod_eq_of_lt (by omega) (by omega)
  have e4:(-(b.length:Int) - 1) % 2 ^ 16 = 65535 - (b.length:Nat):=by
    show (-(b.length:Int) - 1) % 65536 = _
    omega
  rw [e3] at r3
  rw [e4] at r4
  have r5:=Qz (B:=B) (d:=5) hB hm b.length 0 (by omega)
  have aiA:AL B mo 3 [] = .ok () (8 * (5 + b.length)) b:=by
    unfold AL
    rw [dP (show Wn 3 [] = .ok () 8 [] from rfl),dP r3,dP r4,if_pos (by omega)]
    exact r5
  have hbl:Iq B mo (F + 1) 0 [] = .ok ⟨0,true,0,b.length⟩ (8 * (5 + b.length)) b:=by
    unfold Iq
    rw [dP r1,dP r2]
    have hk:Df B mo (F + 1) 0 = AL B mo:=by unfold Df;rw [if_pos rfl]
    rw [hk,dP aiA]
    rfl
  rw [show 8 * (b.length + 5) = 8 * (5 + b.length) by omega]
  refine ⟨[⟨0,true,0,b.length⟩],?_⟩
  unfold rP
  rw [dP hbl,if_pos rfl]
  rfl
theorem ML {b:List UInt8} {i k:Nat}:∀ (f n j:Nat),n≤j→j < eF b i k f n→b[i + j]? = b[k + j]?
  | 0,n,j,h1,h2=>by unfold eF at h2;omega
  | f + 1,n,j,h1,h2=>by
    unfold eF at h2
    split at h2
    · rename_i hc
      by_cases hj:j = n
      · subst hj;exact hc.2.2
      · exact ML f (n + 1) j (by omega) h2
    · omega
theorem H9 (b:List UInt8) (p:Nat):∀ (L:List Nat) (s:Nat × Nat),(∀ x ∈ L,x < p)→tN b p L s = s∨∃ x ∈ L,p - x≤32768∧tN b p L s = (eF b x p 258 0,p - x)
  | [],s,_=>.inl rfl
  | y :: L,s,h=>by
    unfold tN
    split
    · rename_i hc
      rcases H9 b p L (if s.1 < eF b y p 258 0 then (eF b y p 258 0,p - y) else s) (fun x hx=>h x (List.mem_cons_of_mem _ hx)) with e | ⟨x,hx,h1,h2⟩
      · rw [e]
        split
        · exact .inr ⟨y,List.mem_cons_self ..,hc.1,rfl⟩
        · exact .inl rfl
      · exact .inr ⟨x,List.mem_cons_of_mem _ hx,h1,h2⟩
    · exact .inl rfl
theorem Xx {b:List UInt8} {p d:Nat} (hd:1≤d) (hdp:d≤p):∀ n,p + n≤b.length→(∀ j,j < n→b[p - d + j]? = b[p + j]?)→kF d n (b.take p) = b.take (p + n):=by
  suffices H:∀ n q,p≤q→q + n≤b.length→(∀ j,p≤j→j < q + n→b[j - d]? = b[j]?)→kF d n (b.take q) = b.take (q + n) by
    intro n h1 h2
    exact H n p (Nat.le_refl _) h1 fun j hj hj2=>by
      have:=h2 (j - p) (by omega)
      rw [show p - d + (j - p) = j - d by omega,show p + (j - p) = j by omega] at this
      exact this
  intro n
  induction n with
  | zero=>intro q _ _ _;rfl
  | succ n ih =>
    intro q hq h1 h2
    unfold kF
    have hx:b[q]? = some b[q]:=List.getElem?_eq_getElem (by omega)
    have e:(b.take q).getD ((b.take q).length - d) 0 = b[q]:=by
      rw [List.length_take,Nat.min_eq_left (by omega),List.getD_eq_getElem?_getD,List.getElem?_take,if_pos (by omega),h2 q hq (by omega),hx]
      rfl
    rw [e]
    have e2:b.take q ++ [b[q]] = b.take (q + 1):=by rw [List.take_add_one,hx];rfl
    rw [e2,ih (q + 1) (by omega) (by omega) fun j hj hj2=>h2 j hj (by omega),show q + 1 + n = q + (n + 1) by omega]
theorem OL {b:List UInt8} {M:Pls} {p:Nat} (hM:BK M p) (hp:p < b.length):(3≤(eG b M p).len∧(eG b M p).len≤258∧1≤(eG b M p).dist∧(eG b M p).dist≤32768∧(eG b M p).dist≤p∧(eG b M p).byte = 0∧kF (eG b M p).dist (eG b M p).len (b.take p) = b.take (p + (eG b M p).len))∨(eG b M p = ⟨0,0,b.getD p 0⟩):=by
  have hfit:=xJ (M:=M) hp
  unfold eG at hfit ⊢
  by_cases h3:3≤(lJ b M p).1
  · rw [if_pos h3] at hfit ⊢
    left
    simp only at hfit ⊢
    have Nz:=(MN (M:=M) (Nat.le_of_lt hp)).2
    unfold lJ at h3 hfit Nz ⊢
    split at h3
    · rename_i hp3
      rw [if_pos hp3] at hfit Nz ⊢
      have hL:∀ x ∈ (lkM M (o9 b p)).reverse,x < p:=by
        intro x hx
        rw [List.mem_reverse] at hx
        unfold lkM at hx
        split at hx
        · rename_i j hj
          obtain ⟨_,l,hl⟩:=Ag hj
          rw [Nat.sub_zero] at hl
          rw [List.getD_eq_getElem?_getD,hl] at hx
          exact (hM.2 _ (List.mem_of_getElem? hl)).2.2 x hx
        · cases hx
      rcases H9 b p _ (0,0) hL with e | ⟨x,hx,h1,e⟩
      · rw [e] at h3;simp at h3
      · have hxp:=hL x hx
        rw [e] at h3 hfit Nz ⊢
        simp only at h3 hfit Nz ⊢
        refine ⟨h3,Nz,by omega,h1,by omega,trivial,?_⟩
        refine Xx (by omega) (by omega) _ (by omega) fun j hj=>?_
        rw [show p - (p - x) + j = x + j by omega]
        exact ML 258 0 j (by omega) hj
    · simp at h3
  · rw [if_neg h3]
    exact .inr rfl
theorem Xy (y:UInt8) (L:List Px) (o:List UInt8):jO (Gj ⟨0,0,y⟩ :: L) o = jO L (o ++ [y]):=by
  conv=>lhs;unfold jO
  have hm:mV (Gj ⟨0,0,y⟩) = true:=by unfold mV Gj;rfl
  have h0:(Gj ⟨0,0,y⟩).len = 0:=rfl
  rw [if_neg (by rw [hm];simp),if_pos h0]
  rfl
theorem MO {b:List UInt8}:∀ (f:Nat) (M:Pls) (p:Nat),BK M p→p≤b.length→b.length≤p + f→jO ((oU b f M p).map Gj) (b.take p) = (b,0)
  | 0,M,p,hM,hp,hf=>by
    have:p = b.length:=by omega
    subst this
    unfold oU
    rw [List.take_length]
    rfl
  | f + 1,M,p,hM,hp,hf=>by
    unfold oU
    by_cases hlt:p < b.length
    · rw [if_pos hlt,List.map_cons]
      have hmx:1≤max 1 (eG b M p).len:=Nat.le_max_left ..
      have ih:=MO f (JH b M p (max 1 (eG b M p).len)) (p + max 1 (eG b M p).len) (hM.up _) (xJ hlt) (by omega)
      generalize oU b f (JH b M p (max 1 (eG b M p).len)) (p + max 1 (eG b M p).len) = R at *
      rcases OL hM hlt with ⟨h1,h2,h3,h4,h5,h6,h7⟩ | h
      · have hmax:max 1 (eG b M p).len = (eG b M p).len:=by omega
        rw [hmax] at ih
        unfold jO
        have hmay:mV (Gj (eG b M p)) = true:=by
          unfold mV Gj
          simp only
          rw [if_neg (by omega),h6]
          simp
          omega
        rw [if_neg (by simp [hmay])]
        unfold Gj
        simp only
        rw [if_neg (by omega),if_neg (by rw [List.length_take];omega)]
        simp only [Int.toNat_natCast]
        rw [h7]
        exact ih
      · rw [h] at ih ⊢
        have hx:b[p]? = some b[p]:=List.getElem?_eq_getElem hlt
        have hg:b.getD p 0 = b[p]:=by rw [List.getD_eq_getElem?_getD,hx];rfl
        rw [Xy,hg]
        have e2:b.take p ++ [b[p]] = b.take (p + 1):=by rw [List.take_add_one,hx];rfl
        rw [e2]
        exact ih
    · rw [if_neg hlt]
      have:p = b.length:=by omega
      subst this
      rw [List.take_length]
      rfl
theorem Gx (b:List UInt8):jO (rQ b) [] = (b,0):=MO b.length [] 0 ⟨Nat.le_refl _,fun y hy=>by cases hy⟩ (Nat.zero_le _) (by omega)
theorem Agr.app {s:Ws} (h:jK s) (r:List UInt8):Agr (s.o ++ r) s:=by
  unfold jK at h
  refine ⟨by rw [List.length_append];omega,fun i hi=>?_⟩
  unfold iK
  rw [List.getD_eq_getElem?_getD,List.getElem?_append_left (by omega),← List.getD_eq_getElem?_getD]
theorem Xz (l:List Px):Gd (FY l):=by
  unfold FY
  obtain ⟨a1,_,_⟩:=gX (x:=1) Gd.nil 1
  obtain ⟨a2,_,_⟩:=gX (x:=1) a1 2
  exact (rJ (JE l a2).1).1
theorem Vt {F:Nat} {out r:List UInt8} {mo:Int} {l:List Px} (he:jO l [] = (out,0)) (hm:(out.length:Int)≤mo) (hF:l.length < F):∃ L k,rP ((nJ l).1 ++ r) mo F F 0 [] = .ok L k out∧(k + 7) / 8 = (nJ l).1.length:=by
  have hf:(nJ l).1 = (FY l).o:=by unfold nJ;rw [he];rfl
  have hg:=(Xz l).ok
  obtain ⟨L,h⟩:=Xt (F:=F) he (Agr.app hg r) hm hF
  rw [hf]
  unfold jK at hg
  exact ⟨L,_,h,hg.symm⟩
theorem SY {F:Nat} {b r:List UInt8} {mo:Int} (hb:b.length≤65535) (hm:(b.length:Int)≤mo) (hF:b.length < F):∃ L k,rP (iJ b ++ r) mo F F 0 [] = .ok L k b∧(k + 7) / 8 = (iJ b).length:=by
  unfold iJ
  split
  · obtain ⟨L,h⟩:=QA (F:=F) (r:=r) hb hm (by omega)
    exact ⟨L,_,h,by omega⟩
  · refine Vt (Gx b) hm ?_
    have:=zD b b.length [] 0
    unfold rQ
    rw [List.length_map]
    omega
theorem Ro {F:Nat} {b r:List UInt8} {mo:Int} (hb:b.length≤65535) (hm:(b.length:Int)≤mo) (hF:b.length < F):Ko F (iJ b ++ r) mo = (b,(((iJ b).length:Nat):Int),0):=by
  obtain ⟨L,k,h,hk⟩:=SY (F:=F) (r:=r) hb hm hF
  rw [Qx ⟨L,h⟩ hm,hk]
theorem Ul {F:Nat} {b:List UInt8} {mo:Int} (hb:b.length≤65535) (hm:(b.length:Int)≤mo) (hF:0 < F):Ko F (iw b) mo = (b,(((iw b).length:Nat):Int),0):=by
  obtain ⟨L,h⟩:=QA (F:=F) (r:=[]) hb hm hF
  rw [List.append_nil] at h
  rw [Qx ⟨L,h⟩ hm,show (8 * (iw b).length + 7) / 8 = (iw b).length by omega]
theorem Uk (b:List UInt8):(iJ b).length≤b.length + 5:=by
  unfold iJ
  split
  · rw [vY];exact Nat.le_refl _
  · rename_i h
    rw [vY] at h
    omega
end Go.Proofs.Yteblpjhkgdpchaa
namespace Go.Proofs.Yteblpjhkgdpchaa
open Go.AM
theorem abp:iJ [97,97,97,97,97,97,97] = [75,132,0,0]:=by kernel_rfl
theorem abq:iw [97,98] = [1,2,0,253,255,97,98]:=by kernel_rfl
theorem OM (c c2:Nat) (a b:List UInt8):∃ code,Try.f11.body = some code ∧
    Run X (evT X) 11 0 code [(0,.ro c (.pb a) 1),(1,.ro c2 (.pb b) 2)] [] ⟨.ret,[(4,.bool (a == b))],[]⟩:=by
  refine ⟨_,rfl,0,?_⟩
  simp (maxSteps:=2000000) -implicitDefEqProofs [-getElem?_pos,go_sem,eqV,ah,rU,Qp]
theorem coD {p:AV} {b:List UInt8} {c t:Nat} {r:List AV} {ts:List TypeId} (hp:PB p b):coerce X (.ro c p t :: r) (28 :: ts) = .ro c (.pb b) t :: coerce X r ts:=by
  rcases hp with rfl | ⟨rfl,rfl⟩
  · simp [coerce]
  · simp [coerce,bM]
theorem vZ {H:AM.Heap} {a a2:AV} {l m:List UInt8} (h:Byt H a l) (h2:Byt H a2 m):evT X 11 [a,a2] H = some (.bool (l == m),H):=by
  obtain ⟨c2,p2,x2,hp2,_,hx2⟩:=MP (C:=X) (f:=11) (i:=1) rfl h2 (gq 2)
  obtain ⟨c,p,x,hp,_,hx⟩:=MP (C:=X) (f:=11) (i:=0) rfl h hx2
  obtain ⟨code,hcode,hr⟩:=OM c c2 l m
  refine fK (Ev1.DU (l:=[.bool (l == m)]) (dL X) Try.func11 hcode hx (by simp [aB,ids,hp.ids,hp2.ids]) (by simp [dM]) rfl rfl rfl ?_)
  rw [aa1,coD hp,coD hp2]
  exact ⟨_,⟨rfl,rfl⟩,hr⟩
theorem abr (H:AM.Heap):dh X H 28 7 [(0,.int .u8 97),(1,.int .u8 97),(2,.int .u8 97),(3,.int .u8 97),(4,.int .u8 97),(5,.int .u8 97),(6,.int .u8 97)] = some (.ro 1 (.pb [97,97,97,97,97,97,97]) 0,H):=by kernel_rfl
theorem abt (H:AM.Heap):dh X H 28 4 [(0,.int .u8 75),(1,.int .u8 132),(2,.int .u8 0),(3,.int .u8 0)] = some (.ro 1 (.pb [75,132,0,0]) 0,H):=by kernel_rfl
theorem abu (H:AM.Heap):dh X H 28 2 [(0,.int .u8 97),(1,.int .u8 98)] = some (.ro 1 (.pb [97,98]) 0,H):=by kernel_rfl
theorem abv (H:AM.Heap):dh X H 28 7 [(0,.int .u8 1),(1,.int .u8 2),(2,.int .u8 0),(3,.int .u8 253),(4,.int .u8 255),(5,.int .u8 97),(6,.int .u8 98)] = some (.ro 1 (.pb [1,2,0,253,255,97,98]) 0,H):=by kernel_rfl
theorem OO:∃ code,Try.f15.body = some code∧aj (rM fun fr H=>aQ X fr H Try.f15.results.toList = some [.bool true]) X (evT X) 15 0 code [] []:=by
  refine ⟨_,rfl,?_⟩
  apply aj.seq (fr':=[]) (H':=[])
  · (refine ⟨0,?_⟩;simp (maxSteps:=2000000) -implicitDefEqProofs [-getElem?_pos,go_sem,eqV,ah])
  obtain ⟨ob1,w1,e1⟩:=Ei (H:=[]) (a:=.ro 1 (.pb [97,97,97,97,97,97,97]) 0) (b:=[97,97,97,97,97,97,97]) rfl (by simp)
  rw [abp] at w1 e1
  have s1:=vZ (H:=[some ob1]) (a:=.sl 0 0 4 0) (a2:=.ro 1 (.pb [75,132,0,0]) 0) (Byt.whole (l:=[75,132,0,0]) rfl w1) (Byt.ro (.inl rfl) (fun h=>by omega))
  obtain ⟨ob2,w2,e2⟩:=yA (H:=[some ob1]) (a:=.ro 1 (.pb [97,98]) 0) (b:=[97,98]) rfl (by simp)
  rw [abq] at w2 e2
  have s2:=vZ (H:=[some ob1,some ob2]) (a:=.sl 1 0 7 0) (a2:=.ro 1 (.pb [1,2,0,253,255,97,98]) 0) (Byt.whole (l:=[1,2,0,253,255,97,98]) rfl w2) (Byt.ro (.inl rfl) (fun h=>by omega))
  rw [beq_self_eq_true] at s1 s2
  simp only [List.length_cons,List.length_nil,List.nil_append,List.cons_append] at e1 e2
  refine aj.of (o:=⟨.ret,[(0,.bool true)],[some ob1,some ob2]⟩) ?_ ⟨rfl,rfl⟩
  refine ⟨0,?_⟩
  simp (maxSteps:=2000000) -implicitDefEqProofs [-getElem?_pos,go_sem,eqV,ah,abr,abt,abu,abv,e1,e2,s1,s2,ak]
theorem Uh (H:AM.Heap):evT X 15 [] H = some (.bool true,H):=by
  obtain ⟨code,hc,ht⟩:=OO
  exact fK (Ev1.DU (l:=[.bool true]) (dL X) Try.func15 hc rfl rfl (by simp [dM]) rfl rfl rfl ht)
end Go.Proofs.Yteblpjhkgdpchaa
