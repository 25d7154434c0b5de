/- DQ to EJ: texts of this claim, one behind the other; what each shows stands at its head. -/
import Derived.Test.YteblpjhkgdpchaaMg4
set_option linter.unusedSimpArgs false
set_option linter.unusedVariables false
set_option maxRecDepth 100000
set_option maxHeartbeats 8000000
namespace Go.Proofs.Yteblpjhkgdpchaa
open Go.AM
theorem abd {y u k j:Nat} (hu:u < 2) (hy:y / 2 ^ k % 2 = 0):(y ||| u * 2 ^ k) / 2 ^ j % 2 = if j = k then u else y / 2 ^ j % 2:=by
  have e:∀ x i:Nat,x / 2 ^ i % 2 = if x.testBit i then 1 else 0:=by
    intro x i
    rw [Nat.testBit_eq_decide_div_mod_eq]
    by_cases h:x / 2 ^ i % 2 = 1
    · simp [h]
    · rw [if_neg (by simpa using h)];omega
  have hyk:y.testBit k = false:=by
    rw [Nat.testBit_eq_decide_div_mod_eq,hy];rfl
  rw [e,e,Nat.testBit_or]
  have hu2:u = 0∨u = 1:=by omega
  rcases hu2 with rfl | rfl
  · rw [Nat.zero_mul,Nat.zero_testBit,Bool.or_false]
    by_cases hj:j = k
    · subst hj;simp [hyk]
    · simp [hj]
  · rw [Nat.one_mul,Nat.testBit_two_pow]
    by_cases hj:j = k
    · subst hj;simp
    · have:¬ k = j:=fun h=>hj h.symm
      simp [hj,this]
def Cln (s:Ws):Prop:=∀ i,s.k≤i→je s.o i = 0
structure Gd (s:Ws):Prop where
  ok:jC s
  cl:Cln s
structure Ext (s s':Ws):Prop where
  le:s.k≤s'.k
  at':∀ i,i < s.k→je s'.o i = je s.o i
theorem Ext.refl (s:Ws):Ext s s:=⟨Nat.le_refl _,fun _ _=>rfl⟩
theorem Ext.trans {s s1 s2:Ws} (h:Ext s s1) (h2:Ext s1 s2):Ext s s2:=⟨Nat.le_trans h.le h2.le,fun i hi=>by rw [h2.at' i (Nat.lt_of_lt_of_le hi h.le),h.at' i hi]⟩
theorem Dz {s:Ws} {x:Int} (h:Gd s) (i:Nat):je (pG s x).o i = if i = s.k then x % 2 else je s.o i:=by
  have hok:=h.ok
  unfold jC at hok
  have h0:∀ i,je (if s.k % 8 = 0 then s.o ++ [0] else s.o) i = je s.o i:=by
    intro i
    split
    · unfold je
      by_cases h1:i / 8 < s.o.length
      · rw [List.getD_eq_getElem?_getD,List.getD_eq_getElem?_getD,List.getElem?_append_left h1]
      · have h3:s.o.getD (i / 8) 0 = 0:=by rw [List.getD_eq_getElem?_getD,List.getElem?_eq_none (by omega)];rfl
        have h2:(s.o ++ [0]).getD (i / 8) 0 = 0:=by
          rw [List.getD_eq_getElem?_getD,List.getElem?_append_right (by omega)]
          cases i / 8 - s.o.length with
          | zero=>rfl
          | succ n=>rfl
        rw [h2,h3]
    · rfl
  have hlen:s.k / 8 < (if s.k % 8 = 0 then s.o ++ [0] else s.o).length:=by
    split
    · simp;omega
    · omega
  have hcl:je (if s.k % 8 = 0 then s.o ++ [0] else s.o) s.k = 0:=by rw [h0];exact h.cl _ (Nat.le_refl _)
  rw [← h0 i]
  unfold pG
  simp only
  generalize (if s.k % 8 = 0 then s.o ++ [0] else s.o) = b at *
  unfold je at *
  by_cases h8:i / 8 = s.k / 8
  · rw [h8]
    have e1:(b.set (s.k / 8) (orB (b.getD (s.k / 8) 0) x (s.k % 8))).getD (s.k / 8) 0 = orB (b.getD (s.k / 8) 0) x (s.k % 8):=by
      rw [List.getD_eq_getElem?_getD,List.getElem?_set_self hlen];rfl
    rw [e1]
    generalize b.getD (s.k / 8) 0 = y at *
    have hx2:(x % 2).toNat < 2:=by omega
    have hkr:s.k % 8 < 8:=Nat.mod_lt _ (by omega)
    have hor:y.toNat ||| (x % 2).toNat * 2 ^ (s.k % 8) < 256:=Nat.or_lt_two_pow (n:=8) y.toNat_lt (aaF hx2 hkr)
    have e2:(orB y x (s.k % 8)).toNat = y.toNat ||| (x % 2).toNat * 2 ^ (s.k % 8):=by
      unfold orB
      rw [UInt8.toNat_ofNat']
      exact Nat.mod_eq_of_lt hor
    rw [e2,abd hx2 (by omega)]
    by_cases hi:i = s.k
    · rw [if_pos (by rw [hi]),if_pos hi];omega
    · rw [if_neg (by omega),if_neg hi]
  · have e1:(b.set (s.k / 8) (orB (b.getD (s.k / 8) 0) x (s.k % 8))).getD (i / 8) 0 = b.getD (i / 8) 0:=by
      rw [List.getD_eq_getElem?_getD,List.getElem?_set_ne (Ne.symm h8),← List.getD_eq_getElem?_getD]
    rw [e1,if_neg (fun h=>h8 (by rw [h]))]
theorem Qw {s:Ws} {x:Int} (h:Gd s):Gd (pG s x)∧Ext s (pG s x):=by
  refine ⟨⟨Dx h.ok,fun i hi=>?_⟩,Nat.le_succ _,fun i hi=>?_⟩
  · have hi':s.k + 1≤i:=hi
    rw [Dz h,if_neg (by omega)]
    exact h.cl i (by omega)
  · rw [Dz h,if_neg (by omega)]
theorem jG {s:Ws} {x:Int} (h:Gd s):∀ n,Gd (cZ s x n)∧Ext s (cZ s x n)∧∀ i,i < n→je (cZ s x n).o (s.k + i) = x / 2 ^ i % 2
  | 0=>⟨h,Ext.refl s,fun i hi=>absurd hi (by omega)⟩
  | n + 1=>by
    obtain ⟨h1,h2,h3⟩:=jG (x:=x) h n
    obtain ⟨h4,h5⟩:=Qw (x:=x / 2 ^ n) h1
    have hk:=(dP (x:=x) h.ok n).2
    refine ⟨h4,h2.trans h5,fun i hi=>?_⟩
    show je (pG _ _).o _ = _
    rw [Dz h1]
    by_cases hin:i = n
    · subst hin
      rw [if_pos hk.symm]
    · rw [if_neg (by omega)]
      exact h3 i (by omega)
theorem Fe {x:Int}:∀ (n:Nat) {s:Ws},Gd s→Gd (qQ s x n)∧Ext s (qQ s x n)∧∀ i,i < n→je (qQ s x n).o (s.k + i) = x / 2 ^ (n - 1 - i) % 2
  | 0,s,h=>⟨h,Ext.refl s,fun i hi=>absurd hi (by omega)⟩
  | n + 1,s,h=>by
    obtain ⟨h4,h5⟩:=Qw (x:=x / 2 ^ n) h
    obtain ⟨h1,h2,h3⟩:=Fe (x:=x) n h4
    have hk:(pG s (x / 2 ^ n)).k = s.k + 1:=rfl
    refine ⟨h1,h5.trans h2,fun i hi=>?_⟩
    show je (qQ (pG s (x / 2 ^ n)) x n).o _ = _
    cases i with
    | zero =>
      rw [h2.at' _ (by rw [hk];omega),Nat.add_zero,Dz h,if_pos rfl]
      rfl
    | succ i =>
      have:=h3 i (by omega)
      rw [hk] at this
      rw [show s.k + (i + 1) = s.k + 1 + i by omega,this,show n + 1 - 1 - (i + 1) = n - 1 - i by omega]
structure Agr (b:List UInt8) (s:Ws):Prop where
  le:s.k≤8 * b.length
  at':∀ i,i < s.k→je b i = je s.o i
theorem Agr.ext {b:List UInt8} {s s':Ws} (h:Ext s s') (h2:Agr b s'):Agr b s:=⟨Nat.le_trans h.le h2.le,fun i hi=>by rw [h2.at' i (Nat.lt_of_lt_of_le hi h.le),h.at' i hi]⟩
theorem Xi (x:Int) (n:Nat):x % 2 ^ (n + 1) = x % 2 ^ n + 2 ^ n * (x / 2 ^ n % 2):=by
  have hp:(0:Int) < 2 ^ n:=Int.pow_pos (by omega)
  rw [Int.pow_succ]
  generalize (2:Int) ^ n = p at *
  have h1:=Int.emod_add_mul_ediv x p
  have h2:=Int.emod_add_mul_ediv (x / p) 2
  have h3:=Int.emod_nonneg x (show p ≠ 0 by omega)
  have h4:=Int.emod_lt_of_pos x hp
  generalize x % p = r at *
  generalize hq:x / p = q at *
  have h5:q % 2 = 0∨q % 2 = 1:=by omega
  have e:x = (r + p * (q % 2)) + (p * 2) * (q / 2):=by
    rw [← h1]
    conv=>lhs;rw [← h2]
    rw [Int.mul_add,Int.mul_assoc]
    omega
  rw [e,Int.add_mul_emod_self_left]
  rcases h5 with h5 | h5 <;> rw [h5]
  · exact Int.emod_eq_of_lt (by omega) (by omega)
  · exact Int.emod_eq_of_lt (by omega) (by omega)
theorem Vg {b:List UInt8} {k:Nat} {o:List UInt8} {x:Int}:∀ n,k + n≤8 * b.length→(∀ i,i < n→je b (k + i) = x / 2 ^ i % 2)→gV b n k o = .ok (x % 2 ^ n) (k + n) o
  | 0,_,_=>by
    show Res.ok 0 k o = _
    rw [Int.pow_zero,Int.emod_one]
    rfl
  | n + 1,hl,h=>by
    have ih:=Vg (x:=x) (o:=o) n (by omega) fun i hi=>h i (by omega)
    unfold gV
    rw [fU ih]
    have hb:vS b (k + n) o = .ok (x / 2 ^ n % 2) (k + n + 1) o:=by
      unfold vS
      rw [if_pos (by omega),h n (by omega)]
    rw [fU hb,Xi]
    rfl
theorem Af {b:List UInt8} {s:Ws} {o:List UInt8} {x:Int} {n:Nat} (h:Gd s) (ha:Agr b (cZ s x n)):gV b n s.k o = .ok (x % 2 ^ n) (cZ s x n).k o:=by
  have hk:=(dP (x:=x) h.ok n).2
  have hle:=ha.le
  rw [hk] at hle ⊢
  refine Vg n hle fun i hi=>?_
  rw [ha.at' _ (by omega)]
  exact (jG h n).2.2 i hi
theorem Vh {b:List UInt8} {l codes:List Int} {c:Int} {L y:Nat} {o:List UInt8} (hc:0≤c) (hno:∀ i,1≤i→i < L→jD (i:Nat) (c / 2 ^ (L - i)) l codes 0 = none) (hyes:jD (L:Nat) c l codes 0 = some y) (k0:Nat) (hle:k0 + L≤8 * b.length) (hb:∀ i,i < L→je b (k0 + i) = c / 2 ^ (L - 1 - i) % 2) :
    ∀ (r i f:Nat),r + i = L + 1→1≤i→1≤r→r≤f→decP b l codes f i (c / 2 ^ r) (k0 + i - 1) o = .ok y (k0 + L) o
  | 0,i,f,_,_,h,_=>absurd h (by omega)
  | r + 1,i,f,hi,h1,_,hf=>by
    obtain ⟨f,rfl⟩:∃ g,f = g + 1:=⟨f - 1,by omega⟩
    have hbit:vS b (k0 + i - 1) o = .ok (c / 2 ^ r % 2) (k0 + i) o:=by
      unfold vS
      have:=hb (i - 1) (by omega)
      rw [show k0 + (i - 1) = k0 + i - 1 by omega,show L - 1 - (i - 1) = r by omega] at this
      rw [if_pos (by omega),this,show k0 + i - 1 + 1 = k0 + i by omega]
    have hx:2 * (c / 2 ^ (r + 1)) + c / 2 ^ r % 2 = c / 2 ^ r:=by
      rw [Int.pow_succ,← Int.ediv_ediv_of_nonneg (Int.le_of_lt (Int.pow_pos (by omega)))]
      omega
    unfold decP
    rw [fU hbit,hx]
    by_cases hr:r = 0
    · subst hr
      have:i = L:=by omega
      subst this
      rw [Int.pow_zero,Int.ediv_one,hyes]
      rfl
    · have:=hno i h1 (by omega)
      rw [show L - i = r by omega] at this
      rw [this]
      have ih:=Vh hc hno hyes k0 hle hb (o:=o) r (i + 1) f (by omega) (by omega) (by omega) (by omega)
      rw [show k0 + (i + 1) - 1 = k0 + i by omega] at ih
      exact ih
def Fg (l codes:List Int) (y:Nat):Prop:=1≤(l.getD y 0).toNat∧(l.getD y 0).toNat≤(mxL 0 l).toNat∧0≤codes.getD y 0∧codes.getD y 0 < 2 ^ (l.getD y 0).toNat ∧
  (∀ i,1≤i→i < (l.getD y 0).toNat→jD (i:Nat) (codes.getD y 0 / 2 ^ ((l.getD y 0).toNat - i)) l codes 0 = none)∧jD ((l.getD y 0).toNat:Nat) (codes.getD y 0) l codes 0 = some y
theorem Vj {b:List UInt8} {l:List Int} {s:Ws} {y:Nat} {o:List UInt8} (h:Gd s) (hl:(bn l).2 = 0) (hc:Fg l (gI l) y) (ha:Agr b (jB s (gI l) l y)):uh b l s.k o = .ok y (jB s (gI l) l y).k o:=by
  obtain ⟨c1,c2,c3,c3',c4,c5⟩:=hc
  unfold jB at ha ⊢
  have hk:=(DX (x:=(gI l).getD y 0) (l.getD y 0).toNat h.ok).2
  obtain ⟨_,_,hb⟩:=Fe (x:=(gI l).getD y 0) (l.getD y 0).toNat h
  have hle:=ha.le
  rw [hk] at hle ⊢
  unfold uh
  rw [if_pos hl]
  have:=Vh (o:=o) c3 c4 c5 s.k hle (fun i hi=>by rw [ha.at' _ (by omega)];exact hb i hi) (l.getD y 0).toNat 1 (mxL 0 l).toNat (by omega) (by omega) c1 c2
  rw [show (gI l).getD y 0 / 2 ^ (l.getD y 0).toNat = 0 from Int.ediv_eq_zero_of_lt c3 c3'] at this
  exact this
end Go.Proofs.Yteblpjhkgdpchaa
namespace Go.Proofs.Yteblpjhkgdpchaa
open Go.AM
def lcX:List Int:=((List.range 144).map fun i=>Int.ofNat (48 + i)) ++ ((List.range 112).map fun i=>Int.ofNat (400 + i)) ++ ((List.range 24).map fun i=>Int.ofNat i) ++ ((List.range 8).map fun i=>Int.ofNat (192 + i))
def dcX:List Int:=(List.range 32).map fun i=>Int.ofNat i
theorem abe:lcL = lcX:=by decide +kernel
theorem Vk:gI flL = lcX:=by decide +kernel
theorem abf:dcL = dcX:=by decide +kernel
theorem Vl:gI flD = dcX:=by decide +kernel
theorem JB:(bn flL).2 = 0∧(bn flD).2 = 0∧(mxL 0 flL).toNat = 9∧(mxL 0 flD).toNat = 5:=by decide +kernel
theorem yR {i code:Int}:∀ (l cs:List Int) (j:Nat),(∀ p ∈ l.zip cs,¬ (p.1 = i∧p.2 = code))→jD i code l cs j = none
  | [],_,_,_=>by unfold jD;rfl
  | x :: r,[],_,_=>by unfold jD;rfl
  | x :: r,y :: cs,j,h=>by
    unfold jD
    rw [if_neg (h (x,y) (List.mem_cons_self ..))]
    exact yR r cs _ fun p hp=>h p (List.mem_cons_of_mem _ hp)
theorem MK:∀ p ∈ flL.zip lcX,(p.1 = 8∧48≤p.2∧p.2≤199)∨(p.1 = 9∧400≤p.2∧p.2≤511)∨(p.1 = 7∧0≤p.2∧p.2≤23):=by decide +kernel
theorem ML:∀ p ∈ flD.zip dcX,p.1 = 5∧0≤p.2∧p.2≤31:=by decide +kernel
theorem Xj:∀ y,y < 288→(flL.getD y 0,lcX.getD y 0) ∈ flL.zip lcX∧jD (flL.getD y 0).toNat (lcX.getD y 0) flL lcX 0 = some y:=by decide +kernel
theorem Xk:∀ y,y < 32→(flD.getD y 0,dcX.getD y 0) ∈ flD.zip dcX∧jD (flD.getD y 0).toNat (dcX.getD y 0) flD dcX 0 = some y:=by decide +kernel
theorem abg {y:Nat} (h:y < 288):Fg flL (gI flL) y:=by
  obtain ⟨h1,h2⟩:=Xj y h
  have hc:=MK _ h1
  unfold Fg
  rw [Vk,JB.2.2.1]
  simp only at hc
  generalize flL.getD y 0 = L at *
  generalize lcX.getD y 0 = c at *
  have none:∀ i:Nat,i < L.toNat→(i = 7→c / 2 ^ (L.toNat - i) ≥ 24)→(i = 8→c / 2 ^ (L.toNat - i) ≥ 200)→L≤9→jD (i:Nat) (c / 2 ^ (L.toNat - i)) flL lcX 0 = none:=by
    intro i hi h7 h8 h9
    refine yR _ _ _ fun p hp ⟨e1,e2⟩=>?_
    have:=MK p hp
    rw [e1,e2] at this
    rcases this with ⟨g1,g2,g3⟩ | ⟨g1,g2,g3⟩ | ⟨g1,g2,g3⟩
    · have:=h8 (by omega);omega
    · omega
    · have:=h7 (by omega);omega
  rcases hc with ⟨rfl,g2,g3⟩ | ⟨rfl,g2,g3⟩ | ⟨rfl,g2,g3⟩
  · refine ⟨by decide,by decide,by omega,?_,fun i h1 hi=>none i hi ?_ ?_ (by omega),h2⟩
    · show c < 256;omega
    · rintro rfl
      show c / 2 ≥ 24
      omega
    · rintro rfl
      exact absurd hi (by decide)
  · refine ⟨by decide,by decide,by omega,?_,fun i h1 hi=>none i hi ?_ ?_ (by omega),h2⟩
    · show c < 512;omega
    · rintro rfl
      show c / 4 ≥ 24
      omega
    · rintro rfl
      show c / 2 ≥ 200
      omega
  · refine ⟨by decide,by decide,by omega,?_,fun i h1 hi=>none i hi ?_ ?_ (by omega),h2⟩
    · show c < 128;omega
    · rintro rfl
      exact absurd hi (by decide)
    · rintro rfl
      exact absurd hi (by decide)
theorem abh {y:Nat} (h:y < 32):Fg flD (gI flD) y:=by
  obtain ⟨h1,h2⟩:=Xk y h
  have hc:=ML _ h1
  unfold Fg
  rw [Vl,JB.2.2.2]
  simp only at hc
  generalize flD.getD y 0 = L at *
  generalize dcX.getD y 0 = c at *
  obtain ⟨rfl,g2,g3⟩:=hc
  refine ⟨by decide,by decide,by omega,?_,fun i h1 hi=>?_,h2⟩
  · show c < 32;omega
  · refine yR _ _ _ fun p hp ⟨e1,e2⟩=>?_
    have:=(ML p hp).1
    have:i < 5:=hi
    omega
theorem rE {s:Ws} {cs ls:List Int} {y:Nat} (h:Gd s):Gd (jB s cs ls y)∧Ext s (jB s cs ls y):=by
  obtain ⟨h1,h2,_⟩:=Fe (x:=cs.getD y 0) (ls.getD y 0).toNat h
  exact ⟨h1,h2⟩
theorem JC {b:List UInt8} {s:Ws} {y:Nat} {o:List UInt8} (h:Gd s) (hy:y < 288) (ha:Agr b (jB s lcL flL y)):uh b zo s.k o = .ok y (jB s lcL flL y).k o:=by
  have e:lcL = gI flL:=by rw [abe,Vk]
  rw [e] at ha ⊢
  exact Vj h JB.1 (abg hy) ha
theorem Xl {b:List UInt8} {s:Ws} {y:Nat} {o:List UInt8} (h:Gd s) (hy:y < 32) (ha:Agr b (jB s dcL flD y)):uh b yx s.k o = .ok y (jB s dcL flD y).k o:=by
  have e:dcL = gI flD:=by rw [abf,Vl]
  rw [e] at ha ⊢
  exact Vj h JB.2.1 (abh hy) ha
theorem Vm {s:Ws} {x:Px} (h:Gd s):Gd (pxW s x)∧Ext s (pxW s x):=by
  unfold pxW
  split
  · exact rE h
  · obtain ⟨a1,b1⟩:=rE (cs:=lcL) (ls:=flL) (y:=(lenOf x.len.toNat).1) h
    obtain ⟨a2,b2,_⟩:=jG (x:=x.len - ((lenOf x.len.toNat).2.1:Nat)) a1 (lenOf x.len.toNat).2.2
    obtain ⟨a3,b3⟩:=rE (cs:=dcL) (ls:=flD) (y:=(dY x.dist.toNat).1) a2
    obtain ⟨a4,b4,_⟩:=jG (x:=x.dist - ((dY x.dist.toNat).2.1:Nat)) a3 (dY x.dist.toNat).2.2
    exact ⟨a4,b1.trans (b2.trans (b3.trans b4))⟩
theorem JD:∀ (l:List Px) {s:Ws},Gd s→Gd (l.foldl pxW s)∧Ext s (l.foldl pxW s)
  | [],s,h=>⟨h,Ext.refl s⟩
  | x :: l,s,h=>by
    obtain ⟨a1,b1⟩:=Vm (x:=x) h
    obtain ⟨a2,b2⟩:=JD l a1
    exact ⟨a2,b1.trans b2⟩
theorem Xm:∀ n,n < 259→3≤n→AA (lenOf n).1 = ((lenOf n).2.1:Nat)∧CV (lenOf n).1 = (lenOf n).2.2:=by decide +kernel
theorem JE {per n:Nat}:∀ (f s base bits j:Nat),bits≤(gF per n f s base bits j).2.2
  | 0,_,_,_,_=>Nat.le_refl _
  | f + 1,s,base,bits,j=>by
    unfold gF
    split
    · exact Nat.le_trans (Nat.le_succ _) (JE f _ _ _ _)
    · split
      · exact Nat.le_refl _
      · exact JE f _ _ _ _
theorem Xn {n:Nat} (h1:1≤n) (h:n≤32768):sN (dY n).1 = (dY n).2.1∧lJ (dY n).1 = (dY n).2.2:=by
  unfold dY sN lJ
  by_cases h4:n≤4
  · rw [if_pos h4]
    simp only
    rw [if_pos (by omega),if_pos (by omega)]
    omega
  · rw [if_neg h4]
    have hb:=JE (per:=2) (n:=n) 40 4 5 1 0
    obtain ⟨b,j,hj,he⟩:=y9 (n:=n) (f:=40) (bits:=1) (j:=0) (by omega) (Io h)
    have he':gF 2 n 40 4 5 1 0 = (2 * b + 2 + j,(2 + j) * 2 ^ b + 1,b):=he
    rw [he'] at hb ⊢
    simp only at hb ⊢
    rw [if_neg (by omega),if_neg (by omega)]
    have e1:(2 * b + 2 + j) / 2 - 1 = b:=by omega
    have e2:(2 * b + 2 + j) % 2 = j:=by omega
    rw [e1,e2]
    omega
theorem Qx {mo:Int} {d:Nat}:∀ (n k:Nat) (o:List UInt8),((mQ d n o).length:Int)≤mo→sK (yu mo d) n k o = .ok () k (mQ d n o)
  | 0,_,_,_=>rfl
  | n + 1,k,o,h=>by
    have hl:=sG d (n + 1) o
    have h1:yu mo d k o = .ok () k (o ++ [o.getD (o.length - d) 0]):=by
      unfold yu rH
      rw [if_pos (by omega)]
    unfold sK
    rw [fU h1]
    exact Qx n k _ h
theorem Ag:∀ (l:List Px) (o out:List UInt8),iL l o = (out,0)→o.length≤out.length
  | [],o,out,h=>by
    unfold iL at h
    simp only [Prod.mk.injEq] at h
    rw [h.1]
    exact Nat.le_refl _
  | x :: r,o,out,h=>by
    unfold iL at h
    split at h
    · cases h
    · split at h
      · have:=Ag r _ _ h
        simp at this
        omega
      · split at h
        · cases h
        · have:=Ag r _ _ h
          rw [sG] at this
          omega
theorem Gx {x:Px} (h:oW x = true) (h0:¬ x.len = 0):3≤x.len∧x.len≤258∧1≤x.dist∧x.dist≤32768:=by
  unfold oW at h
  rw [if_neg h0] at h
  simp only [Bool.and_eq_true,decide_eq_true_eq] at h
  exact ⟨h.1,h.2.1,h.2.2.1,h.2.2.2.1⟩
theorem OI {b:List UInt8} {mo:Int}:∀ (l:List Px) (s:Ws) (o out:List UInt8) (f:Nat),Gd s→iL l o = (out,0)→Agr b (jB (l.foldl pxW s) lcL flL 256)→l.length < f→(out.length:Int)≤mo →
    qL b mo zo yx f s.k o = .ok () (jB (l.foldl pxW s) lcL flL 256).k out
  | [],s,o,out,f,hs,he,ha,hf,hm=>by
    obtain ⟨f,rfl⟩:∃ g,f = g + 1:=⟨f - 1,by simp at hf;omega⟩
    unfold iL at he
    simp only [Prod.mk.injEq] at he
    obtain ⟨rfl,_⟩:=he
    have h1:=JC (o:=o) hs (by omega) ha
    unfold qL
    rw [fU h1]
    rfl
  | x :: r,s,o,out,f,hs,he,ha,hf,hm=>by
    obtain ⟨f,rfl⟩:∃ g,f = g + 1:=⟨f - 1,by simp at hf;omega⟩
    have hf':r.length < f:=by simp at hf;omega
    have hmay:oW x = true:=by
      unfold iL at he
      split at he
      · cases he
      · rename_i h;simpa using h
    unfold iL at he
    rw [if_neg (by simp [hmay])] at he
    obtain ⟨g1,g2⟩:=Vm (x:=x) hs
    obtain ⟨g3,g4⟩:=JD r g1
    have ha':Agr b (jB (r.foldl pxW (pxW s x)) lcL flL 256):=ha
    have hax:=Agr.ext (g4.trans (rE g3).2) ha'
    show qL b mo zo yx (f + 1) s.k o = .ok () (jB (r.foldl pxW (pxW s x)) lcL flL 256).k out
    unfold qL
    by_cases h0:x.len = 0
    · rw [if_pos h0] at he
      have ih:=OI r (pxW s x) _ _ f g1 he ha' hf' hm
      have hlen:=Ag _ _ _ he
      have hx:pxW s x = jB s lcL flL x.byte.toNat:=by unfold pxW;rw [if_pos h0]
      rw [hx] at hax ih ⊢
      have hb:=x.byte.toNat_lt
      have hb2:x.byte.toNat < 256:=hb
      rw [fU (JC (o:=o) hs (by omega) hax)]
      rw [if_neg (by omega),if_pos hb2]
      have ht:rH mo (UInt8.ofNat x.byte.toNat) (jB s lcL flL x.byte.toNat).k o = .ok () (jB s lcL flL x.byte.toNat).k (o ++ [x.byte]):=by
        unfold rH
        simp at hlen
        rw [if_pos (by omega)]
        simp
      rw [fU ht]
      exact ih
    · rw [if_neg h0] at he
      obtain ⟨m1,m2,m3,m4⟩:=Gx hmay h0
      have hd:¬ (o.length:Int) < x.dist:=by
        intro h
        rw [if_pos h] at he
        cases he
      rw [if_neg hd] at he
      have ih:=OI r (pxW s x) _ _ f g1 he ha' hf' hm
      have hlen:=Ag _ _ _ he
      have hx:pxW s x = cZ (jB (cZ (jB s lcL flL (lenOf x.len.toNat).1) (x.len - ((lenOf x.len.toNat).2.1:Nat)) (lenOf x.len.toNat).2.2) dcL flD (dY x.dist.toNat).1) (x.dist - ((dY x.dist.toNat).2.1:Nat)) (dY x.dist.toNat).2.2:=by unfold pxW;rw [if_neg h0]
      rw [hx] at hax ih ⊢
      obtain ⟨n1,n2,n3,n4,n5⟩:=vO x.len.toNat (by omega) (by omega)
      obtain ⟨t1,t2⟩:=Xm x.len.toNat (by omega) (by omega)
      obtain ⟨d1,d2,d3,d4⟩:=vP (n:=x.dist.toNat) (by omega) (by omega)
      obtain ⟨u1,u2⟩:=Xn (n:=x.dist.toNat) (by omega) (by omega)
      generalize lenOf x.len.toNat = LO at *
      obtain ⟨ls,lb,lx⟩:=LO
      generalize dY x.dist.toNat = DO at *
      obtain ⟨ds,db,dx⟩:=DO
      simp only at n1 n2 n3 n4 n5 t1 t2 d1 d2 d3 d4 u1 u2 hax ih ⊢
      obtain ⟨a1,b1⟩:=rE (cs:=lcL) (ls:=flL) (y:=ls) hs
      obtain ⟨a2,b2,_⟩:=jG (x:=x.len - (lb:Nat)) a1 lx
      obtain ⟨a3,b3⟩:=rE (cs:=dcL) (ls:=flD) (y:=ds) a2
      obtain ⟨a4,b4,_⟩:=jG (x:=x.dist - (db:Nat)) a3 dx
      have x3:=Agr.ext b4 hax
      have x2:=Agr.ext b3 x3
      have x1:=Agr.ext b2 x2
      rw [fU (JC (o:=o) hs (by omega) x1),if_neg (by omega),if_neg (by omega)]
      have r1:=Af (o:=o) a1 x2
      have r2:=Xl (o:=o) a2 (by omega) x3
      have r3:=Af (o:=o) a3 hax
      generalize cZ (jB (cZ (jB s lcL flL ls) (x.len - (lb:Nat)) lx) dcL flD ds) (x.dist - (db:Nat)) dx = s4 at *
      generalize jB (cZ (jB s lcL flL ls) (x.len - (lb:Nat)) lx) dcL flD ds = s3 at *
      generalize cZ (jB s lcL flL ls) (x.len - (lb:Nat)) lx = s2 at *
      generalize jB s lcL flL ls = s1 at *
      have q1:(x.len - (lb:Nat)) % 2 ^ lx = x.len - (lb:Nat):=by
        have:(((2:Nat) ^ lx:Nat):Int) = 2 ^ lx:=by push_cast;rfl
        rw [← this]
        exact Int.emod_eq_of_lt (by omega) (by omega)
      have q2:(x.dist - (db:Nat)) % 2 ^ dx = x.dist - (db:Nat):=by
        have:(((2:Nat) ^ dx:Nat):Int) = 2 ^ dx:=by push_cast;rfl
        rw [← this]
        exact Int.emod_eq_of_lt (by omega) (by omega)
      rw [q1] at r1
      rw [q2] at r3
      have air:CW b mo yx ls s1.k o = .ok () s4.k (mQ x.dist.toNat x.len.toNat o):=by
        unfold CW
        rw [if_neg (by omega),t2,fU r1,fU r2,if_neg (by omega),u2,fU r3,t1,u1]
        rw [show db + (x.dist - (db:Nat)).toNat = x.dist.toNat by omega,show ((lb:Nat) + (x.len - (lb:Nat)):Int).toNat = x.len.toNat by omega]
        unfold NK
        rw [if_neg (by omega)]
        exact Qx _ _ _ (by omega)
      rw [fU air]
      exact ih
theorem Gd.nil:Gd ⟨0,[]⟩:=⟨rfl,fun i _=>by unfold je;simp⟩
theorem Xo {F:Nat} {b out:List UInt8} {mo:Int} {l:List Px} (he:iL l [] = (out,0)) (ha:Agr b (FX l)) (hm:(out.length:Int)≤mo) (hF:l.length < F):∃ L,uY b mo F F 0 [] = .ok L (FX l).k out:=by
  obtain ⟨F,rfl⟩:∃ g,F = g + 1:=⟨F - 1,by omega⟩
  unfold FX at ha ⊢
  obtain ⟨a1,b1,_⟩:=jG (x:=1) Gd.nil 1
  obtain ⟨a2,b2,_⟩:=jG (x:=1) a1 2
  obtain ⟨a3,b3⟩:=JD l a2
  have x3:=Agr.ext (rE a3).2 ha
  have x2:=Agr.ext b3 x3
  have x1:=Agr.ext b2 x2
  have r1:=Af (o:=[]) Gd.nil x1
  have r2:=Af (o:=[]) a1 x2
  have r3:=OI (mo:=mo) l _ [] out (F + 1) a2 he ha hF hm
  have hbl:NM b mo (F + 1) 0 [] = .ok ⟨1,true,0,out.length⟩ (jB (l.foldl pxW (cZ (cZ ⟨0,[]⟩ 1 1) 1 2)) lcL flL 256).k out:=by
    unfold NM
    rw [fU r1,fU r2]
    have hk:F6 b mo (F + 1) (1 % 2 ^ 2) = qL b mo zo yx (F + 1):=by unfold F6;rw [if_neg (by decide),if_pos (by decide)]
    rw [hk,fU r3]
    rfl
  refine ⟨[⟨1,true,0,out.length⟩],?_⟩
  unfold uY
  rw [fU hbl,if_pos rfl]
  rfl
theorem Xp {F:Nat} {b out:List UInt8} {mo:Int} {k:Nat} (h:∃ L,uY b mo F F 0 [] = .ok L k out) (hm:(out.length:Int)≤mo):J8 F b mo = (out,(((k + 7) / 8:Nat):Int),0):=by
  obtain ⟨L,h⟩:=h
  unfold J8
  rw [if_neg (by omega),h]
end Go.Proofs.Yteblpjhkgdpchaa
namespace Go.Proofs.Yteblpjhkgdpchaa
open Go.AM
theorem Xq {s:Ws} {cs ls:List Int} {y:Nat} (h:jC s) (hk:1≤s.k):(jB s cs ls y).o ≠ []:=by
  obtain ⟨h1,h2⟩:=jL (cs:=cs) (ls:=ls) (y:=y) h
  intro e
  unfold jC at h1
  rw [e] at h1
  simp at h1
  omega
theorem Xr {l:List Px} (hm:∀ x ∈ l,oW x = true):(FX l).o ≠ []:=by
  unfold FX
  have h0:jC ⟨0,[]⟩:=rfl
  obtain ⟨h1,h2⟩:=dP (x:=1) h0 1
  obtain ⟨h3,h4⟩:=dP (x:=1) h1 2
  obtain ⟨h5,h6⟩:=zh l _ h3 hm
  have hmono:∀ (l:List Px) (s:Ws),jC s→(∀ x ∈ l,oW x = true)→s.k≤(l.foldl pxW s).k:=by
    intro l
    induction l with
    | nil=>intro s _ _;exact Nat.le_refl _
    | cons x l ih =>
      intro s hs hm
      obtain ⟨h1,_⟩:=NC hs (hm x (List.mem_cons_self ..))
      refine Nat.le_trans ?_ (ih (pxW s x) h1 fun y hy=>hm y (List.mem_cons_of_mem _ hy))
      unfold pxW
      split
      · have:=(jL (cs:=lcL) (ls:=flL) (y:=x.byte.toNat) hs).2
        omega
      · have a1:=jL (cs:=lcL) (ls:=flL) (y:=(lenOf x.len.toNat).1) hs
        have a2:=dP (x:=x.len - ((lenOf x.len.toNat).2.1:Nat)) a1.1 (lenOf x.len.toNat).2.2
        have a3:=jL (cs:=dcL) (ls:=flD) (y:=(dY x.dist.toNat).1) a2.1
        have a4:=dP (x:=x.dist - ((dY x.dist.toNat).2.1:Nat)) a3.1 (dY x.dist.toNat).2.2
        have b1:=a1.2;have b2:=a2.2;have b3:=a3.2;have b4:=a4.2
        omega
  have:=hmono l _ h3 hm
  exact Xq h5 (by omega)
theorem Qy {H:AM.Heap} {o:Nat} {l:List Int} (h:H[o]? = some (some (flO l))):eG H (.sl o 0 l.length 0) = some (.pi .i64 l):=by
  simp [eG,live,h,flO,jv]
theorem ais:lU X 46 [] = some (.agg (.pc [.ro 0 .pn 0,.int .i64 0])):=by kernel_rfl
def fiX (l:List Px) (fr:AM.Frame) (E:AM.Heap):Prop:=∃ a g ob,ay fr 2 = .sl a 0 (jM l).1.length g∧ay fr 3 = .int .i64 (jM l).2∧E[a]? = some (some ob)∧Rw (.pb (jM l).1) g ob
section
variable {c:Nat} {l:List Px}
theorem OJ {m:Nat} (hl:l.length≤2000):∃ code,Try.f22.body = some code∧aj (rF (fiX l)) X (evT X) 22 m code [(0,.ro c (.pr 3 (l.map pxR)) 1)] []:=by
  refine ⟨_,rfl,?_⟩
  obtain ⟨obE,hwE,hEx⟩:=Gm (H:=[some (⟨.pb [],0,none,0,true,false,0⟩:AM.Obj)]) (a:=.ro c (.pr 3 (l.map pxR)) 1) (l:=l) rfl hl
  have hmay:=Dj (l:=l) (o:=[])
  unfold fiX jM
  generalize hex:iL l [] = r at *
  obtain ⟨o,e⟩:=r
  simp only at hEx hmay ⊢
  apply aj.seq (fr':=[(0,.ro c (.pr 3 (l.map pxR)) 1)]) (H':=[some (⟨.pb [],0,none,0,true,false,0⟩:AM.Obj)])
  · generalize l.map pxR = R at *
    (refine ⟨0,?_⟩;simp (maxSteps:=2000000) -implicitDefEqProofs [-getElem?_pos,go_sem,eqV,ah,ak,rowOf,QS])
  apply aj.assoc
  apply aj.seq (fr':=[(0,.ro c (.pr 3 (l.map pxR)) 1),(5,.int .i64 e)]) (H':=[some (⟨.pb [],0,none,0,true,false,0⟩:AM.Obj),some obE])
  · simp only [List.length_singleton,List.singleton_append] at hEx
    generalize l.map pxR = R at *
    generalize o.length = K at *
    (refine ⟨0,?_⟩;simp (maxSteps:=2000000) -implicitDefEqProofs [-getElem?_pos,go_sem,eqV,ah,hEx,ak])
  apply aj.assoc
  by_cases he:¬ e = 0
  · have heb:(e != 0) = true:=by simpa using he
    rw [if_pos he]
    refine aj.of (o:=⟨.ret,[(2,.sl 2 0 0 0),(3,.int .i64 e)],[some (⟨.pb [],0,none,0,true,false,0⟩:AM.Obj),some obE,some (⟨.pb [],0,none,0,true,false,0⟩:AM.Obj)]⟩) ?_ ⟨rfl,2,0,_,rfl,rfl,rfl,⟨rfl,rfl,rfl,rfl,rfl⟩⟩
    apply Run.seq (fr':=[(0,.ro c (.pr 3 (l.map pxR)) 1),(5,.int .i64 e),(24,.bool true)]) (H':=[some (⟨.pb [],0,none,0,true,false,0⟩:AM.Obj),some obE])
    · generalize l.map pxR = R at *
      (refine ⟨0,?_⟩;simp (maxSteps:=2000000) -implicitDefEqProofs [-getElem?_pos,go_sem,eqV,ah,he,heb])
    refine Run.bG ?_ (by simp)
    refine Run.cond (d:=true) (by simp [aJ,ay]) ?_
    apply Run.seq (fr':=[(2,.sl 2 0 0 0),(3,.int .i64 e)]) (H':=[some (⟨.pb [],0,none,0,true,false,0⟩:AM.Obj),some obE,some (⟨.pb [],0,none,0,true,false,0⟩:AM.Obj)])
    · generalize l.map pxR = R at *
      (refine ⟨0,?_⟩;simp (maxSteps:=2000000) -implicitDefEqProofs [-getElem?_pos,go_sem,eqV,ah,ak,rowOf,QS])
    · exact ⟨0,rfl⟩
  have he:e = 0:=Classical.not_not.1 he
  subst he
  rw [if_neg (by simp)]
  simp only
  have hm:=hmay rfl
  apply aj.seq (fr':=[(0,.ro c (.pr 3 (l.map pxR)) 1),(5,.int .i64 0),(24,.bool false)]) (H':=[some (⟨.pb [],0,none,0,true,false,0⟩:AM.Obj),some obE])
  · generalize l.map pxR = R at *
    (refine ⟨0,?_⟩;simp (maxSteps:=2000000) -implicitDefEqProofs [-getElem?_pos,go_sem,eqV,ah])
  apply aj.seq (fr':=[(0,.ro c (.pr 3 (l.map pxR)) 1),(5,.int .i64 0),(24,.bool false)]) (H':=[some (⟨.pb [],0,none,0,true,false,0⟩:AM.Obj),some obE])
  · exact Run.cond (d:=false) (by simp [aJ,ay]) ⟨0,rfl⟩
  have hF:=aeu [some (⟨.pb [],0,none,0,true,false,0⟩:AM.Obj),some obE]
  have hC1:=Pg (H:=[some (⟨.pb [],0,none,0,true,false,0⟩:AM.Obj),some obE,some (flO flL),some (flO flD)]) (a:=.sl 2 0 288 0) (l:=flL) (by have:=Qy (H:=[some (⟨.pb [],0,none,0,true,false,0⟩:AM.Obj),some obE,some (flO flL),some (flO flD)]) (o:=2) (l:=flL) rfl;rwa [qO] at this) Yi
  have hC2:=Pg (H:=[some (⟨.pb [],0,none,0,true,false,0⟩:AM.Obj),some obE,some (flO flL),some (flO flD),nC 288 lcL]) (a:=.sl 3 0 32 0) (l:=flD) (by have:=Qy (H:=[some (⟨.pb [],0,none,0,true,false,0⟩:AM.Obj),some obE,some (flO flL),some (flO flD),nC 288 lcL]) (o:=3) (l:=flD) rfl;rwa [Di] at this) Yj
  rw [qO] at hC1
  rw [Di] at hC2
  simp only [List.length_cons,List.length_nil,List.cons_append,List.nil_append] at hF hC1 hC2
  change evT X _ _ _ = some (_,[_,_,_,_,nC 288 lcL]) at hC1
  change evT X _ _ _ = some (_,[_,_,_,_,_,nC 32 dcL]) at hC2
  have hV:FxV [some (⟨.pb [],0,none,0,true,false,0⟩:AM.Obj),some obE,some (flO flL),some (flO flD),nC 288 lcL,nC 32 dcL,some (jm ⟨0,[]⟩ (.ro 0 .pn 0) 0)] 2 3 4 5 6 none ⟨0,[]⟩:=⟨rfl,rfl,rfl,rfl,⟨⟨_,0,.inl rfl,rfl,rfl,0,.inl rfl,rfl⟩,fun a h=>by cases h⟩,by omega,fun a h=>(by cases h),rfl⟩
  generalize nC 288 lcL = r8 at *
  generalize nC 32 dcL = r10 at *
  generalize some (flO flL) = r6 at *
  generalize some (flO flD) = r7 at *
  generalize some (⟨.pb [],0,none,0,true,false,0⟩:AM.Obj) = r0 at *
  apply aj.seq (fr':=[(0,.ro c (.pr 3 (l.map pxR)) 1),(6,.sl 2 0 288 0),(7,.sl 3 0 32 0)]) (H':=[r0,some obE,r6,r7])
  · generalize l.map pxR = R at *
    (refine ⟨0,?_⟩;simp (maxSteps:=2000000) -implicitDefEqProofs [-getElem?_pos,go_sem,eqV,ah,hF,ak])
  apply aj.seq (fr':=[(0,.ro c (.pr 3 (l.map pxR)) 1),(6,.sl 2 0 288 0),(7,.sl 3 0 32 0),(8,.sl 4 0 288 0)]) (H':=[r0,some obE,r6,r7,r8])
  · generalize l.map pxR = R at *
    (refine ⟨0,?_⟩;simp (maxSteps:=2000000) -implicitDefEqProofs [-getElem?_pos,go_sem,eqV,ah,hC1,ak])
  apply aj.seq (fr':=[(0,.ro c (.pr 3 (l.map pxR)) 1),(6,.sl 2 0 288 0),(7,.sl 3 0 32 0),(8,.sl 4 0 288 0),(10,.sl 5 0 32 0)]) (H':=[r0,some obE,r6,r7,r8,r10])
  · generalize l.map pxR = R at *
    (refine ⟨0,?_⟩;simp (maxSteps:=2000000) -implicitDefEqProofs [-getElem?_pos,go_sem,eqV,ah,hC2,ak])
  apply aj.seq (fr':=[(0,.ro c (.pr 3 (l.map pxR)) 1),(6,.sl 2 0 288 0),(7,.sl 3 0 32 0),(8,.sl 4 0 288 0),(10,.sl 5 0 32 0),(12,.ptr 6 0 0 0)]) (H':=[r0,some obE,r6,r7,r8,r10,some (jm ⟨0,[]⟩ (.ro 0 .pn 0) 0)])
  · simp only [jm]
    generalize l.map pxR = R at *
    (refine ⟨0,?_⟩;simp (maxSteps:=2000000) -implicitDefEqProofs [-getElem?_pos,go_sem,eqV,ah,ais,ak])
  clear hC1 hC2 hF hEx
  generalize [r0,some obE,r6,r7,r8,r10,some (jm ⟨0,[]⟩ (.ro 0 .pn 0) 0)] = E0 at *
  obtain ⟨E1,oa1,g1,g2,g3⟩:=nI (x:=1) (I:=1) (n:=1) rfl hV.wr hV.ok (by simp) (by omega)
  have hV1:=hV.step g2 g3 (dP hV.ok 1).1
  apply aj.seq (fr':=[(0,.ro c (.pr 3 (l.map pxR)) 1),(6,.sl 2 0 288 0),(7,.sl 3 0 32 0),(8,.sl 4 0 288 0),(10,.sl 5 0 32 0),(12,.ptr 6 0 0 0)]) (H':=E1)
  · generalize l.map pxR = R at *
    (refine ⟨0,?_⟩;simp (maxSteps:=2000000) -implicitDefEqProofs [-getElem?_pos,go_sem,eqV,ah,g1])
  have k1:=(dP (x:=1) hV.ok 1).2
  obtain ⟨E2,oa2,g4,g5,g6⟩:=nI (x:=1) (I:=2) (n:=2) rfl hV1.wr hV1.ok (by rw [k1];simp) (by omega)
  have hV2:=hV1.step g5 g6 (dP hV1.ok 2).1
  have k2:=(dP (x:=1) hV1.ok 2).2
  apply aj.seq (fr':=[(0,.ro c (.pr 3 (l.map pxR)) 1),(6,.sl 2 0 288 0),(7,.sl 3 0 32 0),(8,.sl 4 0 288 0),(10,.sl 5 0 32 0),(12,.ptr 6 0 0 0)]) (H':=E2)
  · generalize l.map pxR = R at *
    (refine ⟨0,?_⟩;simp (maxSteps:=2000000) -implicitDefEqProofs [-getElem?_pos,go_sem,eqV,ah,g4])
  apply aj.assoc
  apply aj.seq (fr':=nG 2 3 4 5 6 c l 0) (H':=E2)
  · have hll:(l.map pxR).length = l.length:=by simp
    simp only [nG]
    generalize l.map pxR = R at *
    generalize l.length = N at *
    (refine ⟨0,?_⟩;simp (maxSteps:=2000000) -implicitDefEqProofs [-getElem?_pos,go_sem,eqV,ah,hll])
  have hk3:(cZ (cZ ⟨0,[]⟩ 1 1) 1 2).k≤100:=by rw [k2,k1];simp
  apply aj.andThen (piece (V4 (m:=m) (c:=c) hV2 hk3 hl hm) _ rfl)
  rintro fr E3 ⟨oa3,rfl,hV3⟩
  have hk4:=(zh l _ hV2.ok hm).2
  obtain ⟨E4,oa4,hV4,ait⟩:=Yt (m:=m) (c:=c) (i:=l.length) (l:=l) (tl:=[(49,.bool false)]) hV3 (by omega)
  apply aj.seq (piece ait _ rfl)
  have hne:=Xr hm
  unfold FX at hne ⊢
  obtain ⟨a,g,ob,q1,q2,aiu⟩:=Yu (m:=m) hV4 hne
  generalize (jB (l.foldl pxW (cZ (cZ ⟨0,[]⟩ 1 1) 1 2)) lcL flL 256).o = B at *
  apply aj.seq (piece aiu _ rfl)
  exact aj.of (o:=⟨.ret,[(2,.sl a 0 B.length g),(3,.int .i64 0)],E4⟩) ⟨0,rfl⟩ ⟨rfl,a,g,ob,rfl,rfl,q1,q2⟩
theorem Gy {H:AM.Heap} {a:AV} (ha:eG H a = some (.pr 3 (l.map pxR))) (hl:l.length≤2000):∃ ob,Rw (.pb (jM l).1) 0 ob∧evT X 22 [a] H = some (.tup [.sl H.length 0 (jM l).1.length 0,.int .i64 (jM l).2],H ++ [some ob]):=by
  obtain ⟨c,x,hx⟩:=iM (C:=X) (f:=22) (i:=0) rfl ha (fV 1)
  obtain ⟨code,hc,⟨out,⟨ho,a2,g,ob,h2,h3,h4,hw⟩,hrun⟩⟩:=OJ (m:=0) (c:=c) (l:=l) hl
  obtain ⟨ob',q1,q2⟩:=Ev1.VT (C:=X) (H:=H) (dL X) (n:=(jM l).1.length) (l:=(jM l).1) (rest:=[.int .i64 (jM l).2]) Try.func22 hc hx rfl (by simp [dM]) rfl rfl rfl (by
    rw [aa1]
    refine ⟨out,⟨ho,a2,g,ob,?_,h4,hw⟩,hrun⟩
    show aQ X out.fr out.H [.tmp 2,.tmp 3] = _
    simp [aQ,h2,h3])
  exact ⟨ob',q1,fH (by simpa [aO,fG] using q2)⟩
end
end Go.Proofs.Yteblpjhkgdpchaa
namespace Go.Proofs.Yteblpjhkgdpchaa
open Go.AM
def MN (b:List UInt8):Ws:=cZ (cZ ⟨8,(cZ ⟨0,[]⟩ 1 3).o⟩ (b.length:Nat) 16) (-(b.length:Int) - 1) 16
def qM (b:List UInt8):List UInt8:=(MN b).o ++ b
theorem f13:(cZ ⟨0,[]⟩ 1 3) = ⟨3,[1]⟩:=by kernel_rfl
theorem aiv:lU X 46 [] = some (.agg (.pc [.ro 0 .pn 0,.int .i64 0])):=by kernel_rfl
theorem abj:bM X 5 = .pb []:=by kernel_rfl
theorem aiw {L:Nat} (h:L≤65535):IntKind.i64.wrap ((AM.bits .i64 (if IntKind.i64.signed = true then -1 else 9223372036854775807) ^^^ AM.bits .i64 (L:Int)).toNat:Nat) = -(L:Int) - 1:=by
  have e1:AM.bits .i64 (if IntKind.i64.signed = true then -1 else 9223372036854775807) = BitVec.allOnes 64:=by kernel_rfl
  have e2:(BitVec.ofInt 64 (L:Int)).toNat = L:=by
    rw [BitVec.toNat_ofInt]
    show ((L:Int) % 18446744073709551616).toNat = L
    omega
  have e3:(AM.bits .i64 (if IntKind.i64.signed = true then -1 else 9223372036854775807) ^^^ AM.bits .i64 (L:Int)).toNat = 18446744073709551615 - L:=by
    rw [e1]
    show (BitVec.allOnes 64 ^^^ BitVec.ofInt 64 (L:Int)).toNat = _
    rw [BitVec.allOnes_xor,BitVec.toNat_not,e2]
  rw [e3]
  have e4:((18446744073709551615 - L:Nat):Int) = 18446744073709551615 - (L:Int):=by omega
  rw [e4]
  unfold IntKind.wrap
  simp [IntKind.bits,IntKind.signed]
  omega
section
variable {c:Nat} {b:List UInt8} {E:AM.Heap} {oa:Option Nat} {s:Ws}
def uN (c:Nat) (b:List UInt8):AM.Frame:=[(0,.ro c (.pb b) 1),(3,.ptr 1 0 0 0),(4,.int .i64 (b.length:Nat)),(5,.int .i64 1)]
theorem abk {m:Nat} (h:WrV 0 E 1 oa s) (hne:s.o ≠ []) (hl:s.o.length≤1000000):∃ E',WrV 0 E' 1 oa ⟨s.o.length * 8,s.o⟩∧∃ code,((Try.f13.body).bind (aI [1,1,0,0,0,1,1,1,1,0])) = some code∧Run X (evT X) 13 m code (uN c b) E ⟨.normal,uN c b,E'⟩:=by
  obtain ⟨⟨vo,τ,a1,h0,ho⟩,hn⟩:=id h
  cases oa with
  | none=>exact absurd ho.1 hne
  | some a =>
    refine ⟨AM.upd E 1 (some (jm ⟨s.o.length * 8,s.o⟩ vo τ)),WrV.set hn a1 (eP h0) ho,_,rfl,?_⟩
    obtain ⟨g,τ2,ob,hτ2,rfl,h3,h4⟩:=ho
    have hg:=h4.g
    have w1:IntKind.i64.wrap ((s.o.length:Int) * 8) = ((s.o.length * 8:Nat):Int):=by rw [wrap_i64 (by omega) (by omega)];omega
    simp only [jm,uN] at h0 ⊢
    generalize s.o.length * 8 = k8 at *
    generalize s.o.length = N at *
    generalize b.length = L at *
    (refine ⟨0,?_⟩;simp (maxSteps:=2000000) -implicitDefEqProofs [-getElem?_pos,go_sem,eqV,ah,h0,h3,hg,w1])
theorem Y4 {m:Nat} (h:WrV 0 E 1 oa s) (hne:s.o ≠ []) (hl:s.o.length≤1000000):∃ E',WrV 0 E' 1 oa ⟨s.o.length * 8,s.o⟩∧∃ code,((Try.f13.body).bind (aI [1,1,0,0,0,1,1,1,1,1,1,1,1,0])) = some code∧Run X (evT X) 13 m code (uN c b) E ⟨.normal,uN c b,E'⟩:=by
  obtain ⟨⟨vo,τ,a1,h0,ho⟩,hn⟩:=id h
  cases oa with
  | none=>exact absurd ho.1 hne
  | some a =>
    refine ⟨AM.upd E 1 (some (jm ⟨s.o.length * 8,s.o⟩ vo τ)),WrV.set hn a1 (eP h0) ho,_,rfl,?_⟩
    obtain ⟨g,τ2,ob,hτ2,rfl,h3,h4⟩:=ho
    have hg:=h4.g
    have w1:IntKind.i64.wrap ((s.o.length:Int) * 8) = ((s.o.length * 8:Nat):Int):=by rw [wrap_i64 (by omega) (by omega)];omega
    simp only [jm,uN] at h0 ⊢
    generalize s.o.length * 8 = k8 at *
    generalize s.o.length = N at *
    generalize b.length = L at *
    (refine ⟨0,?_⟩;simp (maxSteps:=2000000) -implicitDefEqProofs [-getElem?_pos,go_sem,eqV,ah,h0,h3,hg,w1])
theorem Y5 {m:Nat} (h:WrV 0 E 1 oa s) (hne:s.o ≠ []) (hl:s.o.length≤1000000) (hb:b.length≤65535):∃ E',WrV 0 E' 1 oa ⟨s.k,s.o ++ b⟩∧∃ code,((Try.f13.body).bind (aI [1,1,0,0,0,1,1,1,1,1,1,1,0])) = some code∧Run X (evT X) 13 m code (uN c b) E ⟨.normal,uN c b,E'⟩:=by
  obtain ⟨⟨vo,τ,a1,h0,ho⟩,hn⟩:=id h
  cases oa with
  | none=>exact absurd ho.1 hne
  | some a =>
    obtain ⟨g,τ2,ob,hτ2,rfl,h3,h4⟩:=ho
    obtain ⟨ob',w1,w2⟩:=Js (C:=X) (T:=28) (e:=5) (src:=.ro (if c = 0 then 0 else 2) (.pb b) 1) (m:=b) BN Tn DK bytes5 Ns h3 h4 (.inl (by simp [mO,ql,sF])) (by omega)
    have h0':(upd E a (some ob'))[1]? = some (some (jm s (.sl a 0 s.o.length g) τ)):=vG h0 (hn a rfl)
    refine ⟨AM.upd (upd E a (some ob')) 1 (some (jm ⟨s.k,s.o ++ b⟩ (.sl a 0 (s.o.length + b.length) (g + 1)) τ)),WrV.set hn a1 (eP h0') ⟨g + 1,τ2,ob',hτ2,by simp,setAt h3,w1⟩,_,rfl,?_⟩
    have ht:b.take b.length = b:=List.take_length
    have hz:jv (.pb b) 0 b.length = some (.pb b):=by simp [jv]
    simp only [jm,uN] at h0 h0' ⊢
    generalize upd E a (some ob') = E1 at *
    generalize s.o.length + b.length = N2 at *
    generalize s.o.length = N at *
    generalize hL:b.length = L at *
    (refine ⟨0,?_⟩;simp (maxSteps:=2000000) -implicitDefEqProofs [-getElem?_pos,go_sem,eqV,ah,h0,h0',w2,uK,bound,jv,hL,ht,hz])
theorem SK (s:Ws) (x:Int):s.o.length≤(pG s x).o.length:=by
  unfold pG
  simp only [List.length_set]
  split <;> simp
theorem wJ (s:Ws) (x:Int):∀ n,s.o.length≤(cZ s x n).o.length
  | 0=>Nat.le_refl _
  | n + 1=>Nat.le_trans (wJ s x n) (SK _ _)
theorem JF {m:Nat} (hb:b.length≤65535):∃ code,Try.f13.body = some code∧aj (rF fun fr E=>∃ a g ob,ay fr 2 = .sl a 0 (qM b).length g∧E[a]? = some (some ob)∧Rw (.pb (qM b)) g ob) X (evT X) 13 m code [(0,.ro c (.pb b) 1)] []:=by
  refine ⟨_,rfl,?_⟩
  apply aj.seq (fr':=[(0,.ro c (.pb b) 1)]) (H':=[some (⟨.pb [],0,none,0,true,false,0⟩:AM.Obj)])
  · (refine ⟨0,?_⟩;simp (maxSteps:=2000000) -implicitDefEqProofs [-getElem?_pos,go_sem,eqV,ah,ak,rowOf,abj])
  apply aj.seq (fr':=[(0,.ro c (.pb b) 1),(3,.ptr 1 0 0 0)]) (H':=[some (⟨.pb [],0,none,0,true,false,0⟩:AM.Obj),some (jm ⟨0,[]⟩ (.ro 0 .pn 0) 0)])
  · simp only [jm]
    (refine ⟨0,?_⟩;simp (maxSteps:=2000000) -implicitDefEqProofs [-getElem?_pos,go_sem,eqV,ah,aiv,ak])
  have hV:WrV 0 [some (⟨.pb [],0,none,0,true,false,0⟩:AM.Obj),some (jm ⟨0,[]⟩ (.ro 0 .pn 0) 0)] 1 none ⟨0,[]⟩:=⟨⟨_,0,.inl rfl,rfl,rfl,0,.inl rfl,rfl⟩,fun a h=>by cases h⟩
  generalize [some (⟨.pb [],0,none,0,true,false,0⟩:AM.Obj),some (jm ⟨0,[]⟩ (.ro 0 .pn 0) 0)] = E0 at *
  have hI:(b.length:Int)≤65535:=by omega
  refine aj.blk ?_ (fun o ho=>by rw [ho.1];simp)
  refine aj.kE (I:=fun k fr E=>k = 0∧fr = [(0,.ro c (.pb b) 1),(3,.ptr 1 0 0 0)]∧E = E0) ?_ (k:=0) ⟨rfl,rfl,rfl⟩
  rintro k fr E ⟨rfl,rfl,rfl⟩
  suffices hT:aj (rF fun fr E=>∃ a g ob,ay fr 2 = .sl a 0 (qM b).length g∧E[a]? = some (some ob)∧Rw (.pb (qM b)) g ob) X (evT X) 13 m _ [(0,.ro c (.pb b) 1),(3,.ptr 1 0 0 0)] E from hT.mono fun o ho=>.inr ⟨by rw [ho.1];simp,ho⟩
  refine aj.blk ?_ (fun o ho=>by rw [ho.1];simp)
  apply aj.seq (fr':=[(0,.ro c (.pb b) 1),(3,.ptr 1 0 0 0),(4,.int .i64 (b.length:Nat))]) (H':=E)
  · have hI2:¬ (65535:Int) < (b.length:Int):=by omega
    have hI3:¬ 65535 < b.length:=by omega
    generalize hL:b.length = L at *
    (refine ⟨0,?_⟩;simp (maxSteps:=2000000) -implicitDefEqProofs [-getElem?_pos,go_sem,eqV,ah,pq,ak,hI,hI2,hI3,hL])
  apply aj.seq (fr':=[(0,.ro c (.pb b) 1),(3,.ptr 1 0 0 0),(4,.int .i64 (b.length:Nat)),(5,.int .i64 0)]) (H':=E)
  · generalize hL:b.length = L at *
    (refine ⟨0,?_⟩;simp (maxSteps:=2000000) -implicitDefEqProofs [-getElem?_pos,go_sem,eqV,ah,ak])
  apply aj.assoc
  apply aj.seq (fr':=[(0,.ro c (.pb b) 1),(3,.ptr 1 0 0 0),(4,.int .i64 (b.length:Nat)),(5,.int .i64 0),(14,.bool true)]) (H':=E)
  · generalize hL:b.length = L at *
    (refine ⟨0,?_⟩;simp (maxSteps:=2000000) -implicitDefEqProofs [-getElem?_pos,go_sem,eqV,ah,hL])
  apply aj.seq (fr':=uN c b) (H':=E)
  · refine Run.cond (d:=true) (by simp [aJ,ay]) ?_
    simp only [uN]
    generalize hL:b.length = L at *
    (refine ⟨0,?_⟩;simp (maxSteps:=2000000) -implicitDefEqProofs [-getElem?_pos,go_sem,eqV,ah,ak])
  obtain ⟨E1,oa1,g1,g2,g3⟩:=nI (x:=1) (I:=3) (n:=3) rfl hV rfl (by simp) (by omega)
  apply aj.seq (fr':=uN c b) (H':=E1)
  · simp only [uN]
    generalize hL:b.length = L at *
    (refine ⟨0,?_⟩;simp (maxSteps:=2000000) -implicitDefEqProofs [-getElem?_pos,go_sem,eqV,ah,g1])
  have ho1:(cZ ⟨0,[]⟩ 1 3).o = [1]:=by rw [f13]
  obtain ⟨E2,hV2,hr7⟩:=abk (m:=m) (c:=c) (b:=b) g2 (by rw [ho1];simp) (by rw [ho1];simp)
  apply aj.seq (piece hr7 _ rfl)
  have e8:(cZ ⟨0,[]⟩ 1 3).o.length * 8 = 8:=by rw [ho1];rfl
  rw [e8] at hV2
  have hok2:jC ⟨8,(cZ ⟨0,[]⟩ 1 3).o⟩:=by unfold jC;rw [ho1];rfl
  obtain ⟨E3,oa3,g4,g5,g6⟩:=nI (x:=(b.length:Nat)) (I:=16) (n:=16) rfl hV2 hok2 (by simp) (by omega)
  have k3:=dP (x:=(b.length:Nat)) hok2 16
  apply aj.seq (fr':=uN c b) (H':=E3)
  · simp only [uN]
    generalize hL:b.length = L at *
    (refine ⟨0,?_⟩;simp (maxSteps:=2000000) -implicitDefEqProofs [-getElem?_pos,go_sem,eqV,ah,g4])
  obtain ⟨E4,oa4,g7,g8,g9⟩:=nI (x:=-(b.length:Int) - 1) (I:=16) (n:=16) rfl g5 k3.1 (by rw [k3.2];simp) (by omega)
  have k4:=dP (x:=-(b.length:Int) - 1) k3.1 16
  apply aj.seq (fr':=uN c b) (H':=E4)
  · simp only [uN]
    have wx:IntKind.i64.wrap (-(b.length:Int) - 1) = -(b.length:Int) - 1:=by rw [wrap_i64 (by omega) (by omega)]
    have wx2:IntKind.i64.wrap (-1 - (b.length:Int)) = -(b.length:Int) - 1:=by rw [wrap_i64 (by omega) (by omega)];omega
    have wn:=aiw hb
    simp only [go_sem] at wn
    generalize hL:b.length = L at *
    (refine ⟨0,?_⟩;simp (maxSteps:=2000000) -implicitDefEqProofs [-getElem?_pos,go_sem,eqV,ah,g7,wn])
  have abl:1≤(MN b).o.length:=by
    have m1:=wJ ⟨8,(cZ ⟨0,[]⟩ 1 3).o⟩ (b.length:Nat) 16
    have m2:=wJ (cZ ⟨8,(cZ ⟨0,[]⟩ 1 3).o⟩ (b.length:Nat) 16) (-(b.length:Int) - 1) 16
    have m0:(cZ ⟨0,[]⟩ 1 3).o.length = 1:=by rw [ho1];rfl
    unfold MN
    simp only at m1 m2
    omega
  have hk5:(MN b).o.length = 5:=by
    have:=k4.1
    unfold jC at this
    unfold MN
    rw [this,k4.2,k3.2]
    rfl
  have hne:(MN b).o ≠ []:=fun e=>by rw [e] at abl;simp at abl
  have g8':WrV 0 E4 1 oa4 (MN b):=g8
  obtain ⟨E5,hV5,aix⟩:=Y5 (m:=m) (c:=c) (b:=b) g8' hne (by omega) hb
  apply aj.seq (piece aix _ rfl)
  obtain ⟨E6,hV6,aiy⟩:=Y4 (m:=m) (c:=c) (b:=b) hV5 (by simp [hne]) (by simp;omega)
  apply aj.seq (piece aiy _ rfl)
  simp only at hV6
  have QZ:∃ v,∃ code,((Try.f13.body).bind (aI [1,1,0,0,0,1,1,1,1,1,1,1,1,1,0])) = some code∧Run X (evT X) 13 m code (uN c b) E6 ⟨.normal,[(0,v),(3,.ptr 1 0 0 0),(5,.int .i64 1)],E6⟩:=by
    refine ⟨.ro (if c = 0 then 0 else c) (.pb []) 1,_,rfl,?_⟩
    have hd:b.drop b.length = []:=List.drop_of_length_le (Nat.le_refl _)
    simp only [uN]
    generalize hL:b.length = L at *
    (refine ⟨0,?_⟩;simp (maxSteps:=2000000) -implicitDefEqProofs [-getElem?_pos,go_sem,eqV,ah,uK,bound,jv,hL,hd,ak])
  obtain ⟨v12,QZ⟩:=QZ
  apply aj.seq (piece QZ _ rfl)
  apply aj.seq (fr':=[(0,v12),(3,.ptr 1 0 0 0),(58,.bool true)]) (H':=E6)
  · (refine ⟨0,?_⟩;simp (maxSteps:=2000000) -implicitDefEqProofs [-getElem?_pos,go_sem,eqV,ah])
  refine aj.KA (by simp [aJ,ay]) ?_
  obtain ⟨⟨vo,τ,a1,h0,ho⟩,hn⟩:=id hV6
  cases oa4 with
  | none=>exact absurd ho.1 (by simp [hne])
  | some a =>
    obtain ⟨g,τ2,ob,hτ2,rfl,h3,h4⟩:=ho
    have ht:τ2 = 0:=hτ2.elim id id
    have hst:(MN b).o ++ b = qM b:=rfl
    simp only [hst] at h0 h3 h4
    refine aj.of (o:=⟨.ret,[(2,.sl a 0 (qM b).length g)],E6⟩) ?_ ⟨rfl,a,g,ob,rfl,h3,⟨h4.p,h4.g,h4.row,h4.ids,by rw [h4.tg,ht]⟩⟩
    refine ⟨0,?_⟩
    simp only [jm] at h0
    generalize (qM b).length = N at *
    simp (maxSteps:=2000000) -implicitDefEqProofs [-getElem?_pos,go_sem,eqV,ah,h0,ak]
theorem Fh {H:AM.Heap} {a:AV} (ha:eG H a = some (.pb b)) (hb:b.length≤65535):∃ ob,Rw (.pb (qM b)) 0 ob∧evT X 13 [a] H = some (.sl H.length 0 (qM b).length 0,H ++ [some ob]):=by
  obtain ⟨c,x,hx⟩:=iM (C:=X) (f:=13) (i:=0) rfl ha (fV 1)
  obtain ⟨code,hc,⟨out,⟨ho,a2,g,ob,h2,h4,hw⟩,hrun⟩⟩:=JF (m:=0) (c:=c) hb
  obtain ⟨ob',q1,q2⟩:=Ev1.VT (C:=X) (H:=H) (dL X) (n:=(qM b).length) (l:=qM b) (rest:=[]) Try.func13 hc hx rfl (by simp [dM]) rfl rfl rfl (by
    rw [aa0]
    refine ⟨out,⟨ho,a2,g,ob,?_,h4,hw⟩,hrun⟩
    show aQ X out.fr out.H [.tmp 2] = _
    simp [aQ,h2])
  exact ⟨ob',q1,fH q2⟩
end
end Go.Proofs.Yteblpjhkgdpchaa
namespace Go.Proofs.Yteblpjhkgdpchaa
open Go.AM
def abm (x:Pc):Px:=⟨(x.len:Nat),(x.dist:Nat),x.byte⟩
theorem Y6 (L:List Pc):(L.map abm).map pxR = L.map pcR:=by
  rw [List.map_map]
  rfl
def xI (b:List UInt8):List Px:=(tC b b.length [] 0).map abm
def CP (b:List UInt8):List UInt8:=if (qM b).length < (jM (xI b)).1.length then qM b else (jM (xI b)).1
theorem MO (b:List UInt8):∀ (f:Nat) (M:Pls) (p:Nat),(tC b f M p).length≤f
  | 0,_,_=>Nat.le_refl _
  | f + 1,M,p=>by
    unfold tC
    split
    · have:=MO b f (OL b M p (max 1 (kD b M p).len)) (p + max 1 (kD b M p).len)
      simp
      omega
    · simp
theorem Y7 {H:AM.Heap} {o g es:Nat} {ob:AM.Obj} {l:List AV} (ho:H[o]? = some (some ob)) (hw:Rw (.pr es l) g ob):eG H (.sl o 0 l.length g) = some (.pr es l):=by
  simp [eG,live,ho,hw.g,hw.ids,hw.p,jv]
section
variable {c:Nat} {b:List UInt8}
theorem JG {m:Nat} (hb:b.length≤1400):∃ code,Try.f12.body = some code∧aj (rF fun fr E=>∃ a g ob,ay fr 2 = .sl a 0 (CP b).length g∧E[a]? = some (some ob)∧Rw (.pb (CP b)) g ob) X (evT X) 12 m code [(0,.ro c (.pb b) 1)] []:=by
  refine ⟨_,rfl,?_⟩
  apply aj.seq (fr':=[(0,.ro c (.pb b) 1)]) (H':=[some (⟨.pb [],0,none,0,true,false,0⟩:AM.Obj)])
  · (refine ⟨0,?_⟩;simp (maxSteps:=2000000) -implicitDefEqProofs [-getElem?_pos,go_sem,eqV,ah,ak,rowOf,abj])
  obtain ⟨ob1,w1,e1⟩:=SL (H:=[some (⟨.pb [],0,none,0,true,false,0⟩:AM.Obj)]) (a:=.ro c (.pb b) 1) (b:=b) rfl hb
  have hlen:=MO b b.length [] 0
  obtain ⟨ob2,w2,e2⟩:=Gy (H:=[some (⟨.pb [],0,none,0,true,false,0⟩:AM.Obj),some ob1]) (a:=.sl 1 0 (tC b b.length [] 0).length 0) (l:=xI b) (by
    unfold xI
    rw [Y6]
    have:=Y7 (H:=[some (⟨.pb [],0,none,0,true,false,0⟩:AM.Obj),some ob1]) (o:=1) rfl w1
    rwa [List.length_map] at this) (by unfold xI;rw [List.length_map];omega)
  obtain ⟨ob3,w3,e3⟩:=Fh (H:=[some (⟨.pb [],0,none,0,true,false,0⟩:AM.Obj),some ob1,some ob2]) (a:=.ro c (.pb b) 1) (b:=b) rfl (by omega)
  simp only [List.length_cons,List.length_nil,List.cons_append,List.nil_append] at e1 e2 e3
  unfold CP
  have g2:=w2.g;have g3:=w3.g
  generalize hr0:some (⟨.pb [],0,none,0,true,false,0⟩:AM.Obj) = r0 at *
  apply aj.seq (fr':=[(0,.ro c (.pb b) 1),(3,.sl 2 0 (jM (xI b)).1.length 0)]) (H':=[r0,some ob1,some ob2])
  · generalize (tC b b.length [] 0).length = N1 at *
    generalize (jM (xI b)).1.length = N2 at *
    generalize (jM (xI b)).2 = er at *
    (refine ⟨0,?_⟩;simp (maxSteps:=2000000) -implicitDefEqProofs [-getElem?_pos,go_sem,eqV,ah,e1,e2,ak])
  apply aj.assoc
  apply aj.seq (fr':=[(3,.sl 2 0 (jM (xI b)).1.length 0),(5,.sl 3 0 (qM b).length 0)]) (H':=[r0,some ob1,some ob2,some ob3])
  · generalize (jM (xI b)).1.length = N2 at *
    generalize (qM b).length = N3 at *
    (refine ⟨0,?_⟩;simp (maxSteps:=2000000) -implicitDefEqProofs [-getElem?_pos,go_sem,eqV,ah,e3,ak])
  apply aj.assoc
  by_cases hlt:(qM b).length < (jM (xI b)).1.length
  · rw [if_pos hlt]
    have hI:((qM b).length:Int) < ((jM (xI b)).1.length:Int):=by omega
    refine aj.of (o:=⟨.ret,[(2,.sl 3 0 (qM b).length 0)],[r0,some ob1,some ob2,some ob3]⟩) ?_ ⟨rfl,3,0,ob3,rfl,rfl,w3⟩
    generalize (jM (xI b)).1.length = N2 at *
    generalize (qM b).length = N3 at *
    apply Run.seq (fr':=[(3,.sl 2 0 N2 0),(5,.sl 3 0 N3 0),(18,.bool true)]) (H':=[r0,some ob1,some ob2,some ob3])
    · (refine ⟨0,?_⟩;simp (maxSteps:=2000000) -implicitDefEqProofs [-getElem?_pos,go_sem,eqV,ah,g2,g3,hI,hlt])
    · refine ⟨0,?_⟩
      simp (maxSteps:=2000000) -implicitDefEqProofs [-getElem?_pos,go_sem,eqV,ah,ak]
  · rw [if_neg hlt]
    have hI:¬ ((qM b).length:Int) < ((jM (xI b)).1.length:Int):=by omega
    refine aj.of (o:=⟨.ret,[(2,.sl 2 0 (jM (xI b)).1.length 0)],[r0,some ob1,some ob2,some ob3]⟩) ?_ ⟨rfl,2,0,ob2,rfl,rfl,w2⟩
    generalize (jM (xI b)).1.length = N2 at *
    generalize (qM b).length = N3 at *
    apply Run.seq (fr':=[(3,.sl 2 0 N2 0),(5,.sl 3 0 N3 0),(18,.bool false)]) (H':=[r0,some ob1,some ob2,some ob3])
    · (refine ⟨0,?_⟩;simp (maxSteps:=2000000) -implicitDefEqProofs [-getElem?_pos,go_sem,eqV,ah,g2,g3,hI,hlt])
    · refine ⟨0,?_⟩
      simp (maxSteps:=2000000) -implicitDefEqProofs [-getElem?_pos,go_sem,eqV,ah,ak]
theorem OM {H:AM.Heap} {a:AV} (ha:eG H a = some (.pb b)) (hb:b.length≤1400):∃ ob,Rw (.pb (CP b)) 0 ob∧evT X 12 [a] H = some (.sl H.length 0 (CP b).length 0,H ++ [some ob]):=by
  obtain ⟨c,x,hx⟩:=iM (C:=X) (f:=12) (i:=0) rfl ha (fV 1)
  obtain ⟨code,hc,⟨out,⟨ho,a2,g,ob,h2,h4,hw⟩,hrun⟩⟩:=JG (m:=0) (c:=c) hb
  obtain ⟨ob',q1,q2⟩:=Ev1.VT (C:=X) (H:=H) (dL X) (n:=(CP b).length) (l:=CP b) (rest:=[]) Try.func12 hc hx rfl (by simp [dM]) rfl rfl rfl (by
    rw [aaZ]
    refine ⟨out,⟨ho,a2,g,ob,?_,h4,hw⟩,hrun⟩
    show aQ X out.fr out.H [.tmp 2] = _
    simp [aQ,h2])
  exact ⟨ob',q1,fH q2⟩
end
end Go.Proofs.Yteblpjhkgdpchaa
namespace Go.Proofs.Yteblpjhkgdpchaa
open Go.AM
theorem Gd.one:Gd ⟨8,[1]⟩:=⟨rfl,fun i hi=>by
  unfold je
  have:1≤i / 8:=by have hi':8≤i:=hi;omega
  obtain ⟨q,hq⟩:∃ q,i / 8 = q + 1:=⟨i / 8 - 1,by omega⟩
  simp only [hq]
  simp⟩
theorem Agr.app {s:Ws} (h:jC s) (r:List UInt8):Agr (s.o ++ r) s:=by
  unfold jC at h
  refine ⟨by rw [List.length_append];omega,fun i hi=>?_⟩
  unfold je
  rw [List.getD_eq_getElem?_getD,List.getElem?_append_left (by omega),← List.getD_eq_getElem?_getD]
theorem Xt (l:List Px):Gd (FX l):=by
  unfold FX
  obtain ⟨a1,_,_⟩:=jG (x:=1) Gd.nil 1
  obtain ⟨a2,_,_⟩:=jG (x:=1) a1 2
  exact (rE (JD l a2).1).1
theorem Vo {F:Nat} {out r:List UInt8} {mo:Int} {l:List Px} (he:iL l [] = (out,0)) (hm:(out.length:Int)≤mo) (hF:l.length < F):∃ L k,uY ((jM l).1 ++ r) mo F F 0 [] = .ok L k out∧(k + 7) / 8 = (jM l).1.length:=by
  have hf:(jM l).1 = (FX l).o:=by unfold jM;rw [he];rfl
  have hg:=(Xt l).ok
  obtain ⟨L,h⟩:=Xo (F:=F) he (Agr.app hg r) hm hF
  rw [hf]
  unfold jC at hg
  exact ⟨L,_,h,hg.symm⟩
theorem Ug {F:Nat} {out:List UInt8} {mo:Int} {l:List Px} (he:iL l [] = (out,0)) (hm:(out.length:Int)≤mo) (hF:l.length < F):J8 F (jM l).1 mo = (out,(((jM l).1.length:Nat):Int),0):=by
  obtain ⟨L,k,h,hk⟩:=Vo (F:=F) (r:=[]) he hm hF
  rw [List.append_nil] at h
  rw [Xp ⟨L,h⟩ hm,hk]
end Go.Proofs.Yteblpjhkgdpchaa
namespace Go.Proofs.Yteblpjhkgdpchaa
open Go.AM
theorem abn:CP [97,97,97,97,97,97,97] = [75,132,0,0]:=by kernel_rfl
theorem abo:qM [97,98] = [1,2,0,253,255,97,98]:=by kernel_rfl
theorem OO (c c2:Nat) (a b:List UInt8):∃ code,Try.f11.body = some code ∧
    Run X (evT X) 11 0 code [(0,.ro c (.pb a) 1),(1,.ro c2 (.pb b) 2)] [] ⟨.ret,[(4,.bool (a == b))],[]⟩:=by
  refine ⟨_,rfl,0,?_⟩
  simp (maxSteps:=2000000) -implicitDefEqProofs [-getElem?_pos,go_sem,eqV,ah,rJ,Qp]
theorem coD {p:AV} {b:List UInt8} {c t:Nat} {r:List AV} {ts:List TypeId} (hp:PB p b):coerce X (.ro c p t :: r) (28 :: ts) = .ro c (.pb b) t :: coerce X r ts:=by
  rcases hp with rfl | ⟨rfl,rfl⟩
  · simp [coerce]
  · simp [coerce,bM]
theorem Ef {H:AM.Heap} {a a2:AV} {l m:List UInt8} (h:Byt H a l) (h2:Byt H a2 m):evT X 11 [a,a2] H = some (.bool (l == m),H):=by
  obtain ⟨c2,p2,x2,hp2,_,hx2⟩:=MP (C:=X) (f:=11) (i:=1) rfl h2 (fV 2)
  obtain ⟨c,p,x,hp,_,hx⟩:=MP (C:=X) (f:=11) (i:=0) rfl h hx2
  obtain ⟨code,hcode,hr⟩:=OO c c2 l m
  refine fH (Ev1.DL (l:=[.bool (l == m)]) (dL X) Try.func11 hcode hx (by simp [aB,ids,hp.ids,hp2.ids]) (by simp [dM]) rfl rfl rfl ?_)
  rw [aaY,coD hp,coD hp2]
  exact ⟨_,⟨rfl,rfl⟩,hr⟩
theorem abp (H:AM.Heap):dh X H 28 7 [(0,.int .u8 97),(1,.int .u8 97),(2,.int .u8 97),(3,.int .u8 97),(4,.int .u8 97),(5,.int .u8 97),(6,.int .u8 97)] = some (.ro 1 (.pb [97,97,97,97,97,97,97]) 0,H):=by kernel_rfl
theorem abq (H:AM.Heap):dh X H 28 4 [(0,.int .u8 75),(1,.int .u8 132),(2,.int .u8 0),(3,.int .u8 0)] = some (.ro 1 (.pb [75,132,0,0]) 0,H):=by kernel_rfl
theorem abr (H:AM.Heap):dh X H 28 2 [(0,.int .u8 97),(1,.int .u8 98)] = some (.ro 1 (.pb [97,98]) 0,H):=by kernel_rfl
theorem abt (H:AM.Heap):dh X H 28 7 [(0,.int .u8 1),(1,.int .u8 2),(2,.int .u8 0),(3,.int .u8 253),(4,.int .u8 255),(5,.int .u8 97),(6,.int .u8 98)] = some (.ro 1 (.pb [1,2,0,253,255,97,98]) 0,H):=by kernel_rfl
theorem OQ:∃ code,Try.f15.body = some code∧aj (rF fun fr H=>aQ X fr H Try.f15.results.toList = some [.bool true]) X (evT X) 15 0 code [] []:=by
  refine ⟨_,rfl,?_⟩
  apply aj.seq (fr':=[]) (H':=[])
  · (refine ⟨0,?_⟩;simp (maxSteps:=2000000) -implicitDefEqProofs [-getElem?_pos,go_sem,eqV,ah])
  obtain ⟨ob1,w1,e1⟩:=OM (H:=[]) (a:=.ro 1 (.pb [97,97,97,97,97,97,97]) 0) (b:=[97,97,97,97,97,97,97]) rfl (by simp)
  rw [abn] at w1 e1
  have s1:=Ef (H:=[some ob1]) (a:=.sl 0 0 4 0) (a2:=.ro 1 (.pb [75,132,0,0]) 0) (Byt.whole (l:=[75,132,0,0]) rfl w1) (Byt.ro (.inl rfl) (fun h=>by omega))
  obtain ⟨ob2,w2,e2⟩:=Fh (H:=[some ob1]) (a:=.ro 1 (.pb [97,98]) 0) (b:=[97,98]) rfl (by simp)
  rw [abo] at w2 e2
  have s2:=Ef (H:=[some ob1,some ob2]) (a:=.sl 1 0 7 0) (a2:=.ro 1 (.pb [1,2,0,253,255,97,98]) 0) (Byt.whole (l:=[1,2,0,253,255,97,98]) rfl w2) (Byt.ro (.inl rfl) (fun h=>by omega))
  rw [beq_self_eq_true] at s1 s2
  simp only [List.length_cons,List.length_nil,List.nil_append,List.cons_append] at e1 e2
  refine aj.of (o:=⟨.ret,[(0,.bool true)],[some ob1,some ob2]⟩) ?_ ⟨rfl,rfl⟩
  refine ⟨0,?_⟩
  simp (maxSteps:=2000000) -implicitDefEqProofs [-getElem?_pos,go_sem,eqV,ah,abp,abq,abr,abt,e1,e2,s1,s2,ak]
theorem Uf (H:AM.Heap):evT X 15 [] H = some (.bool true,H):=by
  obtain ⟨code,hc,ht⟩:=OQ
  exact fH (Ev1.DL (l:=[.bool true]) (dL X) Try.func15 hc rfl rfl (by simp [dM]) rfl rfl rfl ht)
end Go.Proofs.Yteblpjhkgdpchaa
