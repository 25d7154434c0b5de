/- IE to WS: texts of this claim, one behind the other; what each shows stands at its head. -/
import Derived.Test.YtcllinmgllmpmaaMg5
set_option linter.unusedSimpArgs false
set_option linter.unusedVariables false
set_option maxRecDepth 100000
set_option maxHeartbeats 8000000
namespace Go.Proofs.Ytcllinmgllmpmaa
open Go.AM
theorem Qr {v:Nat} (h:v < 9223372036854775808):(AM.bits .i64 (v:Int)).toNat = v:=by
 unfold AM.bits
 simp [IntKind.bits]
 omega
theorem ZN {v:Nat} (h:v < 256):(AM.bits .u8 (v:Int)).toNat = v:=by
 unfold AM.bits
 simp [IntKind.bits]
 omega
theorem ZO {v:Nat} (h:v < 256):IntKind.u8.wrap ((AM.bits .u8 (v:Int) &&& AM.bits .u8 1).toNat:Nat) = ((v % 2:Nat):Int):=by
 rw [BitVec.toNat_and,ZN h,show (AM.bits .u8 1).toNat = 1 by decide,Nat.and_one_is_mod,wrap_u8 (by omega) (by omega)]
theorem abJ {x y i:Nat} (hx:x < 2 ^ i) (hi:i < 32) (hy:y≤1):IntKind.i64.wrap ((AM.bits .i64 (x:Int) ||| AM.bits .i64 ((y * 2 ^ i:Nat):Int)).toNat:Nat) = ((x + y * 2 ^ i:Nat):Int):=by
 have h1:2 ^ i≤2 ^ 31:=Nat.pow_le_pow_right (by omega) (by omega)
 have h2:y * 2 ^ i≤2 ^ i:=by
  have:=Nat.mul_le_mul_right (2 ^ i) hy
  omega
 rw [BitVec.toNat_or,Qr (by omega),Qr (by omega)]
 have h3:=Nat.shiftLeft_add_eq_or_of_lt (i:=i) (b:=x) hx y
 rw [Nat.shiftLeft_eq] at h3
 rw [Nat.or_comm,← h3,wrap_i64 (by omega) (by omega)]
 omega
def MK (b:List UInt8) (i:Nat):Nat:=(b.getD (i / 8) 0).toNat / 2 ^ (i % 8) % 2
theorem ZP (b:List UInt8) (i:Nat):iU b i = (MK b i:Nat):=rfl
theorem QM (b:List UInt8) (i:Nat):MK b i≤1:=by unfold MK;omega
def vO (b:List UInt8) (k:Nat):Nat→Nat
 | 0=>0
 | n + 1=>vO b k n + MK b (k + n) * 2 ^ n
theorem Jk (b:List UInt8) (k:Nat):∀ n,vO b k n < 2 ^ n
 | 0=>by simp [vO]
 | n + 1=>by
  have h1:=Jk b k n
  have h2:=QM b (k + n)
  have h3:=Nat.mul_le_mul_right (2 ^ n) h2
  rw [vO,Nat.pow_succ]
  omega
theorem DV (b:List UInt8) (k:Nat) (o:List UInt8):∀ n,k + n≤8 * b.length→fO b n k o = .ok ((vO b k n:Nat):Int) (k + n) o
 | 0,_=>rfl
 | n + 1,h=>by
  unfold fO
  rw [dQ (DV b k o n (by omega))]
  unfold dD wz
  rw [if_pos (by omega)]
  simp only [mG,ZP,vO]
  congr 1
  rw [Int.natCast_add,Int.natCast_mul,Int.mul_comm]
  simp
theorem EC (b:List UInt8) (k:Nat) (o:List UInt8) (hk:k≤8 * b.length):∀ n,8 * b.length < k + n→fO b n k o = .err 4
 | 0,h=>by omega
 | n + 1,h=>by
  unfold fO
  by_cases h1:k + n≤8 * b.length
  ·rw [dQ (DV b k o n h1)]
   unfold dD wz
   rw [if_neg (by omega)]
  ·rw [EW (EC b k o hk n (by omega))]
section
variable {c:Nat} {b:List UInt8} {mo:Int} {t:Nat} {H:AM.Heap} {o:Nat} {oa:Option Nat} {s:Is}
def kZ (n:Int) (x i:Nat):AM.Frame:=[(0,.ptr 0 0 0 0),(1,.int .i64 n),(5,.int .i64 (x:Nat)),(6,.int .i64 (i:Nat))]
theorem Vy {m n x i:Nat} {E:AM.Heap} (h:IrV c b mo t E 0 oa s):∃ code,((Try.f34.body).bind (aI [1,1,0,1,0,0,0,0])) = some code∧Run X (evT X) 34 m code (kZ (n:Nat) x i) E ⟨.normal,kZ (n:Nat) x i ++ [(16,.bool (decide (i < n) && (s.e == 0)))],E⟩:=by
 refine ⟨_,rfl,?_⟩
 obtain ⟨⟨vo,τ1,τ,a1,a2,h0,ho⟩,hne⟩:=id h
 simp only [bJ] at h0
 by_cases hi:i < n
 ·have hI:(i:Int) < (n:Int):=by omega
  simp only [kZ,hi,decide_true,Bool.true_and]
  (refine ⟨0,?_⟩;simp (maxSteps:=2000000) -implicitDefEqProofs [-getElem?_pos,go_sem,eqV,ah,h0,hI])
 ·have hI:¬ (i:Int) < (n:Int):=by omega
  simp only [kZ,hi,decide_false,Bool.false_and]
  (refine ⟨0,?_⟩;simp (maxSteps:=2000000) -implicitDefEqProofs [-getElem?_pos,go_sem,eqV,ah,h0,hI])
theorem Y2 {m x i:Nat} {n:Int} {E:AM.Heap} (h:IrV c b mo t E 0 oa s) (hk:s.k≤8 * b.length) (hb:b.length≤100000):∃ code,((Try.f34.body).bind (aI [1,1,0,1,0,0,1,0,0,0,0])) = some code∧Run X (evT X) 34 m code (kZ n x i ++ [(16,.bool true)]) E ⟨.normal,kZ n x i ++ [(29,.bool (decide (8 * b.length≤s.k)))],E⟩:=by
 refine ⟨_,rfl,?_⟩
 obtain ⟨⟨vo,τ1,τ,a1,a2,h0,ho⟩,hne⟩:=id h
 simp only [bJ] at h0
 generalize s.k = q at *
 have e1:((q:Nat):Int).tdiv 8 = ((q / 8:Nat):Int):=by rw [Int.tdiv_eq_ediv_of_nonneg (by omega)];omega
 have e2:((q:Nat):Int) / 8 = ((q / 8:Nat):Int):=by omega
 have w1:IntKind.i64.wrap ((q / 8:Nat):Int) = ((q / 8:Nat):Int):=wrap_i64 (by omega) (by omega)
 have hd:decide (8 * b.length≤q) = decide ((b.length:Int)≤((q / 8:Nat):Int)):=by
  by_cases h1:8 * b.length≤q
  ·rw [decide_eq_true h1,decide_eq_true (by omega)]
  ·rw [decide_eq_false h1,decide_eq_false (by omega)]
 rw [hd]
 generalize q / 8 = q8 at *
 simp only [kZ]
 (refine ⟨0,?_⟩;simp (maxSteps:=2000000) -implicitDefEqProofs [-getElem?_pos,go_sem,eqV,ah,h0,e1,e2,w1])
theorem abK {m x i:Nat} {n:Int} {E:AM.Heap} {d:Bool} (h:IrV c b mo t E 0 oa s) (hk:s.k < 8 * b.length) (hb:b.length≤100000) (hx:x < 2 ^ i) (hi:i < 32):∃ code,((Try.f34.body).bind (aI [1,1,0,1,0,0,1,0,0,1,0])) = some code∧Run X (evT X) 34 m code (kZ n x i ++ [(29,.bool d)]) E ⟨.normal,kZ n (x + MK b s.k * 2 ^ i) i,E⟩:=by
 refine ⟨_,rfl,?_⟩
 obtain ⟨⟨vo,τ1,τ,a1,a2,h0,ho⟩,hne⟩:=id h
 simp only [bJ] at h0
 generalize s.k = q at *
 have hq0:q / 8 < b.length:=by omega
 obtain ⟨y,hget⟩:∃ y,b[q / 8]? = some y:=⟨_,List.getElem?_eq_getElem hq0⟩
 have hn:MK b q = y.toNat / 2 ^ (q % 8) % 2:=by
  unfold MK
  rw [List.getD_eq_getElem?_getD,hget];rfl
 have e1:((q:Nat):Int).tdiv 8 = ((q / 8:Nat):Int):=by rw [Int.tdiv_eq_ediv_of_nonneg (by omega)];omega
 have e2:((q:Nat):Int) / 8 = ((q / 8:Nat):Int):=by omega
 have e3:((q:Nat):Int).tmod 8 = ((q % 8:Nat):Int):=by rw [Int.tmod_eq_emod_of_nonneg (by omega)];omega
 have e4:((q:Nat):Int) % 8 = ((q % 8:Nat):Int):=by omega
 have w1:IntKind.i64.wrap ((q / 8:Nat):Int) = ((q / 8:Nat):Int):=wrap_i64 (by omega) (by omega)
 have hr8:q % 8 < 8:=by omega
 have hr0:¬ (((q % 8:Nat):Int) < 0):=by omega
 have hm8:min (q % 8) 8 = q % 8:=by omega
 have hv:((y.toNat:Nat):Int).fdiv (2 ^ (q % 8)) = ((y.toNat / 2 ^ (q % 8):Nat):Int):=by
  rw [Int.fdiv_eq_ediv_of_nonneg _ (by exact Int.le_of_lt (Int.pow_pos (by omega)))];simp
 have hvl:y.toNat / 2 ^ (q % 8) < 256:=Nat.lt_of_le_of_lt (Nat.div_le_self _ _) y.toNat_lt
 have hA:=ZO hvl
 have hA2:=hA
 simp only [go_sem] at hA2
 rw [← hn] at hA hA2
 have hy:=QM b q
 generalize MK b q = z at *
 have hz:IntKind.i64.wrap ((z:Nat):Int) = (z:Int):=wrap_i64 (by omega) (by omega)
 have h1:2 ^ i≤2 ^ 31:=Nat.pow_le_pow_right (by omega) (by omega)
 have h2:z * 2 ^ i≤2 ^ i:=by
  have:=Nat.mul_le_mul_right (2 ^ i) hy
  omega
 have hs:IntKind.i64.wrap ((z:Int) * 2 ^ i) = ((z * 2 ^ i:Nat):Int):=by
  rw [show (z:Int) * 2 ^ i = ((z * 2 ^ i:Nat):Int) by simp]
  exact wrap_i64 (by omega) (by omega)
 have hmi:min i 64 = i:=by omega
 have hi0:¬ ((i:Nat):Int) < 0:=by omega
 have hO:=abJ hx hi hy
 have hO2:=hO
 simp only [go_sem] at hO2
 have hq8:((q / 8:Nat):Int) < (b.length:Int):=by omega
 generalize q / 8 = q8 at *
 generalize q % 8 = r8 at *
 generalize y.toNat / 2 ^ r8 = v at *
 generalize z * 2 ^ i = w at *
 generalize x + w = xw at *
 simp only [kZ]
 (refine ⟨0,?_⟩;simp (maxSteps:=2000000) -implicitDefEqProofs [-getElem?_pos,go_sem,eqV,ah,h0,e1,e2,e3,e4,w1,hq8,hq0,hget,hr0,hm8,hv,hA,hA2,hz,hs,hmi,hi0,hO,hO2])
theorem abL {m x i:Nat} {n:Int} {E:AM.Heap} (h:IrV c b mo t E 0 oa s) (hk:s.k < 8 * b.length) (hb:b.length≤100000):∃ E',IrV c b mo t E' 0 oa { s with k:=s.k + 1 }∧∃ code,((Try.f34.body).bind (aI [1,1,0,1,0,0,1,0,0,1,1])) = some code∧Run X (evT X) 34 m code (kZ n x i) E ⟨.normal,kZ n x i,E'⟩:=by
 obtain ⟨⟨vo,τ1,τ,a1,a2,h0,ho⟩,hne⟩:=id h
 refine ⟨AM.upd E 0 (some (bJ c b mo { s with k:=s.k + 1 } vo τ1 τ)),IrV.set hne a1 a2 h.lt.1 ho,_,rfl,?_⟩
 have w:IntKind.i64.wrap ((s.k:Int) + 1) = ((s.k + 1:Nat):Int):=by rw [wrap_i64 (by omega) (by omega)];omega
 simp only [bJ,kZ] at h0 ⊢
 generalize s.k + 1 = k1 at *
 (refine ⟨0,?_⟩;simp (maxSteps:=2000000) -implicitDefEqProofs [-getElem?_pos,go_sem,eqV,ah,h0,w])
theorem OA {m n:Nat} {E:AM.Heap} (h:IrV c b mo t E 0 oa s) (hs:fM b mo s) (hb:b.length≤100000) (hn:n≤16):∃ code,Try.f34.body = some code ∧
  aj (kE fun fr E'=>∃ s' oa' a,aP X fr E' Try.f34.results.toList = some [.int .i64 a]∧IrV c b mo t E' 0 oa' s'∧(∀ x,oa = some x→oa' = some x)∧cO b mo (fO b n) 0 s s' a) X (evT X) 34 m code [(0,.ptr 0 0 0 0),(1,.int .i64 (n:Nat))] E:=by
 refine ⟨_,rfl,?_⟩
 apply aj.seq
 ·(refine ⟨0,?_⟩;conv=>lhs;simp (maxSteps:=2000000) -implicitDefEqProofs [-getElem?_pos,go_sem,eqV,ah,ak])
 apply aj.seq
 ·(refine ⟨0,?_⟩;conv=>lhs;simp (maxSteps:=2000000) -implicitDefEqProofs [-getElem?_pos,go_sem,eqV,ah,ak])
 apply aj.assoc
 apply aj.seq (fr':=kZ (n:Nat) 0 0) (H':=E)
 ·(refine ⟨0,?_⟩;simp (maxSteps:=2000000) -implicitDefEqProofs [-getElem?_pos,go_sem,eqV,ah,kZ,ak])
 apply aj.tV (P:=fun fr E'=>∃ s' oa' i,∃ x:Nat,fr = kZ (n:Nat) x i ++ [(16,.bool false)]∧IrV c b mo t E' 0 oa' s'∧(∀ a,oa = some a→oa' = some a)∧cO b mo (fO b n) 0 s s' (x:Nat))
 ·by_cases he:s.e = 0
  ·refine aj.kF (I:=fun k fr E'=>∃ oa' i,i≤n∧k = n - i∧s.k + i≤8 * b.length∧fr = kZ (n:Nat) (vO b s.k i) i∧IrV c b mo t E' 0 oa' ⟨s.k + i,s.o,0⟩∧(∀ a,oa = some a→oa' = some a)) ?_ (k:=n) ⟨oa,0,by omega,by omega,by have:=hs.1;omega,rfl,(by rw [← he];exact h),fun a ha=>ha⟩
   rintro k fr E' ⟨oa',i,hi,rfl,hki,rfl,hV,hm⟩
   by_cases hin:i = n
   ·subst hin
    refine aj.of (o:=⟨.exit 0,kZ (i:Nat) (vO b s.k i) i ++ [(16,.bool false)],E'⟩) ?_ (.inr ⟨by simp,.inl ⟨rfl,_,oa',i,vO b s.k i,rfl,hV,hm,cO.Qi ⟨hki,hs.2⟩ he (DV b s.k s.o i hki)⟩⟩)
    apply Run.bH
    ·have h3:=Vy (m:=m) (n:=i) (x:=vO b s.k i) (i:=i) hV
     simp only [Nat.lt_irrefl,decide_false,Bool.false_and] at h3
     apply Run.seq (piece h3 _ rfl)
     refine ⟨0,?_⟩
     simp only [kZ]
     simp (maxSteps:=2000000) -implicitDefEqProofs [-getElem?_pos,go_sem,eqV,ah]
    ·simp
   ·have hin':i < n:=by omega
    apply aj.seq (fr':=kZ (n:Nat) (vO b s.k i) i ++ [(16,.bool true)]) (H':=E')
    ·have h3:=Vy (m:=m) (n:=n) (x:=vO b s.k i) (i:=i) hV
     simp only [hin',decide_true,Bool.true_and,beq_self_eq_true] at h3
     apply Run.seq (piece h3 _ rfl)
     refine ⟨0,?_⟩
     simp only [kZ]
     simp (maxSteps:=2000000) -implicitDefEqProofs [-getElem?_pos,go_sem,eqV,ah]
    by_cases hsh:8 * b.length≤s.k + i
    ·-- too short
     obtain ⟨E2,oa2,hE2,hV2,hk2⟩:=qQ (e:=4) hV
     refine aj.of (o:=⟨.ret,[(4,.int .i64 0)],E2⟩) ?_ (.inr ⟨by simp,.inr ⟨rfl,.inr rfl,?_⟩⟩)
     ·apply Run.bH
      ·apply Run.block
       ·apply Run.bH
        ·have h5:=Y2 (m:=m) (x:=vO b s.k i) (i:=i) (n:=(n:Nat)) hV hki hb
         simp only [hsh,decide_true] at h5
         apply Run.seq (piece h5 _ rfl)
         refine ⟨0,?_⟩
         simp only [kZ]
         simp (maxSteps:=2000000) -implicitDefEqProofs [-getElem?_pos,go_sem,eqV,ah,hE2,ak]
        ·simp
       ·simp
      ·simp
     ·refine ⟨_,oa2,0,rfl,hV2,fun a ha=>hk2.same a (hm a ha),?_⟩
      refine cO.Ey (e:=4) ?_ he (EC b s.k s.o hs.1 n (by omega)) ?_ (by simp)
      ·simp [gJ];exact ⟨hki,hs.2⟩
      ·simp [gJ]
    ·have hlt:s.k + i < 8 * b.length:=by omega
     obtain ⟨E2,hV2,hr9⟩:=abL (m:=m) (x:=vO b s.k (i + 1)) (i:=i) (n:=(n:Nat)) hV hlt hb
     refine aj.of (o:=⟨.normal,kZ (n:Nat) (vO b s.k (i + 1)) (i + 1),E2⟩) ?_ (.inl ⟨rfl,n - (i + 1),by omega,oa',i + 1,by omega,rfl,by omega,rfl,hV2,hm⟩)
     apply Run.seq (fr':=kZ (n:Nat) (vO b s.k (i + 1)) i) (H':=E2)
     ·apply Run.block
      ·apply Run.seq (fr':=kZ (n:Nat) (vO b s.k i) i ++ [(29,.bool false)]) (H':=E')
       ·have h5:=Y2 (m:=m) (x:=vO b s.k i) (i:=i) (n:=(n:Nat)) hV hki hb
        simp only [hsh,decide_false] at h5
        apply Run.seq (piece h5 _ rfl)
        refine ⟨0,?_⟩
        simp only [kZ]
        simp (maxSteps:=2000000) -implicitDefEqProofs [-getElem?_pos,go_sem,eqV,ah]
       apply Run.seq (piece (abK (m:=m) (n:=(n:Nat)) hV hlt hb (Jk b s.k i) (by omega)) _ rfl)
       exact piece hr9 _ rfl
      ·simp
     ·have w:IntKind.i64.wrap ((i:Int) + 1) = ((i + 1:Nat):Int):=by rw [wrap_i64 (by omega) (by omega)];omega
      simp only [kZ]
      (refine ⟨0,?_⟩;simp (maxSteps:=2000000) -implicitDefEqProofs [-getElem?_pos,go_sem,eqV,ah,w,ak])
  ·refine aj.kF (I:=fun k fr E'=>fr = kZ (n:Nat) 0 0∧E' = E) ?_ (k:=0) ⟨rfl,rfl⟩
   rintro k fr E' ⟨rfl,rfl⟩
   refine aj.of (o:=⟨.exit 0,kZ (n:Nat) 0 0 ++ [(16,.bool false)],E'⟩) ?_ (.inr ⟨by simp,.inl ⟨rfl,s,oa,0,0,rfl,h,fun a ha=>ha,cO.stop hs he⟩⟩)
   apply Run.bH
   ·have h3:=Vy (m:=m) (n:=n) (x:=0) (i:=0) h
    rw [show (s.e == 0) = false by simpa using he,Bool.and_false] at h3
    apply Run.seq (piece h3 _ rfl)
    refine ⟨0,?_⟩
    simp only [kZ]
    simp (maxSteps:=2000000) -implicitDefEqProofs [-getElem?_pos,go_sem,eqV,ah]
   ·simp
 ·rintro fr E' ⟨s',oa',i,x,rfl,hV,hm,hr⟩
  refine aj.of (o:=⟨.ret,[(4,.int .i64 (x:Nat))],E'⟩) ?_ ⟨.inr rfl,s',oa',(x:Nat),rfl,hV,hm,hr⟩
  refine ⟨0,?_⟩
  simp only [kZ]
  simp (maxSteps:=2000000) -implicitDefEqProofs [-getElem?_pos,go_sem,eqV,ah,ak]
end
end Go.Proofs.Ytcllinmgllmpmaa
namespace Go.Proofs.Ytcllinmgllmpmaa
open Go.AM
def dJ (x:Int):List Int→Nat→List Int
 | [],_=>[]
 | y :: r,i=>if y = x then (i:Int) :: dJ x r (i + 1) else dJ x r (i + 1)
theorem qF (x y:Int):∀ (l:List Int) (i:Nat),dJ x (l ++ [y]) i = dJ x l i ++ (if y = x then [((i + l.length:Nat):Int)] else [])
 | [],i=>by simp [dJ]
 | z :: r,i=>by
  simp only [List.cons_append,dJ,qF x y r (i + 1),List.length_cons]
  rw [show i + 1 + r.length = i + (r.length + 1) by omega]
  split <;> simp
theorem EX (x:Int):∀ (l:List Int) (i:Nat),dJ x l i = [] ↔ x ∉ l
 | [],i=>by simp [dJ]
 | z :: r,i=>by
  simp only [dJ,List.mem_cons,not_or]
  by_cases h:z = x
  ·simp [h]
  ·rw [if_neg h,EX x r (i + 1)]
   exact ⟨fun g=>⟨fun e=>h e.symm,g⟩,fun g=>g.2⟩
def kN (ps:List Int) (g t:Nat):Option AM.Obj:=some { p:=.pi .i64 ps,g:=g,cap:=.none,z:=if ps.length≤1 then 0 else 1,row:=true,ids:=false,tg:=t }
def syV (d tn:Nat) (ks:List Int) (l:List Int) (gr:Bool) (x:Int):AV :=
 if x ∈ ks then .sl (d + ks.idxOf x) 0 (dJ x l 0).length (if gr then (dJ x l 0).length - 1 else 0) else .ro 0 .pn tn
def jY:List Int:=[0,1,2,3,4,5,6,7,8,9,10,11,12,13,14,15]
def jZ (v:AV) (t:Nat):Option AM.Obj:=some { p:=.pc [v],g:=0,cap:=some 1,z:=1,row:=false,ids:=true,tg:=t }
def pz (k:Nat) (n:List Int) (t:Nat):Option AM.Obj:=some { p:=.pi .i64 n,g:=0,cap:=some k,z:=1,row:=false,ids:=false,tg:=t }
def vP (s:List AV) (t:Nat):Option AM.Obj:=some { p:=.pc s,g:=0,cap:=some 16,z:=1,row:=false,ids:=true,tg:=t }
def rdH (c:Nat) (b:List UInt8) (a:Int) (n f:List Int) (ks done:List Int) (m:Int):AM.Heap :=
 [jZ (.ro c (.pb b) 2) 0,jZ (.int .i64 a) 0,pz 16 n 0,pz 17 f 0,vP (jY.map (syV 6 0 ks done true)) 0,jZ (.int .i64 m) 0] ++ ks.map fun x=>kN (dJ x done 0) ((dJ x done 0).length - 1) 0
theorem XM {H:AM.Heap} (i:Int):dw X H 56 (.ro 0 .pn 0) (.ro 1 (.pi .i64 [i]) 0) = some (.sl H.length 0 1 0,H ++ [kN [i] 0 0]):=by
 have hroom:fP X 3 1 = true:=by simp [fP]
 simp only [dw,Hq,size3,SB]
 simp [lV,pI,ah,bT,rE,aN,rD,eX,hroom,kN]
theorem XO {H:AM.Heap} {o g:Nat} {ps:List Int} (i:Int) (ho:H[o]? = some (kN ps g 0)) (h0:ps ≠ []) (h:ps.length≤100000):dw X H 56 (.sl o 0 ps.length g) (.ro 1 (.pi .i64 [i]) 0) = some (.sl o 0 (ps.length + 1) (g + 1),H.set o (kN (ps ++ [i]) (g + 1) 0)):=by
 have hroom:fP X 3 (ps.length + 1) = true:=by
  simp [fP]
  omega
 have ho':H[o]? = some (some ⟨.pi .i64 ps,g,.none,(if ps.length≤1 then 0 else 1),true,false,0⟩):=ho
 simp only [dw,Hq,size3,SB]
 simp [lV,pI,ah,live,ho',jd,rE,aN,rD,eX,hroom,upd,kN,h0]
def JB (ks done:List Int):Prop:=ks.Nodup∧∀ x,x ∈ ks ↔ x ∈ done
theorem DZ {x:Int} (h:0≤x∧x≤15):jY[x.toNat]? = some x:=by
 have hx:x = 0∨x = 1∨x = 2∨x = 3∨x = 4∨x = 5∨x = 6∨x = 7∨x = 8∨x = 9∨x = 10∨x = 11∨x = 12∨x = 13∨x = 14∨x = 15:=by omega
 rcases hx with rfl | rfl | rfl | rfl | rfl | rfl | rfl | rfl | rfl | rfl | rfl | rfl | rfl | rfl | rfl | rfl <;> rfl
theorem EY {j:Nat} (h:j < 16):jY[j]? = some (j:Int):=by
 have:=DZ (x:=(j:Int)) (by omega)
 rwa [show ((j:Int)).toNat = j by omega] at this
theorem H9 (d tn:Nat) (ks ks' done:List Int) (x:Int) (v:AV) (hx:0≤x∧x≤15) (hv:v = syV d tn ks' (done ++ [x]) true x) (hk:∀ y,y ≠ x→((y ∈ ks' ↔ y ∈ ks)∧(y ∈ ks→ks'.idxOf y = ks.idxOf y))) :
  (jY.map (syV d tn ks done true)).set x.toNat v = jY.map (syV d tn ks' (done ++ [x]) true):=by
 refine List.ext_getElem? fun j=>?_
 rw [List.getElem?_set]
 by_cases hj:j < 16
 ·by_cases e:x.toNat = j
  ·subst e
   have:x.toNat < (jY.map (syV d tn ks done true)).length:=by simp [jY];omega
   rw [if_pos rfl,if_pos this,List.getElem?_map,DZ hx,hv];rfl
  ·rw [if_neg e,List.getElem?_map,List.getElem?_map,EY hj]
   simp only [Option.map_some,Option.some.injEq]
   have hne:(j:Int) ≠ x:=by omega
   obtain ⟨h1,h2⟩:=hk (j:Int) hne
   have hp:dJ (j:Int) (done ++ [x]) 0 = dJ (j:Int) done 0:=by
    rw [qF,if_neg (fun z=>hne z.symm)];simp
   unfold syV
   rw [hp]
   by_cases hm:(j:Int) ∈ ks
   ·rw [if_pos hm,if_pos (h1.2 hm),h2 hm]
   ·rw [if_neg hm,if_neg (fun z=>hm (h1.1 z))]
 ·have h1:(jY.map (syV d tn ks done true)).length≤j:=by simp [jY];omega
  have h2:(jY.map (syV d tn ks' (done ++ [x]) true)).length≤j:=by simp [jY];omega
  have h3:¬ x.toNat = j:=by omega
  rw [if_neg h3,List.getElem?_eq_none h1,List.getElem?_eq_none h2]
theorem XP (Bx:List (Option AM.Obj)) (hB:Bx.length = 6) (ks done:List Int) (x:Int) (hx:0≤x∧x≤15) (hk:JB ks done) (hl:done.length≤320) :
  ∃ o2 n2 g2 R' ks',dw X (Bx ++ ks.map fun x=>kN (dJ x done 0) ((dJ x done 0).length - 1) 0) 56 (syV 6 0 ks done true x) (.ro 1 (.pi .i64 [(done.length:Int)]) 0) = some (.sl o2 0 n2 g2,Bx ++ R') ∧
   JB ks' (done ++ [x])∧(jY.map (syV 6 0 ks done true)).set x.toNat (.sl o2 0 n2 g2) = jY.map (syV 6 0 ks' (done ++ [x]) true)∧R' = ks'.map (fun y=>kN (dJ y (done ++ [x]) 0) ((dJ y (done ++ [x]) 0).length - 1) 0):=by
 have hpl:∀ y (m:List Int) (i:Nat),(dJ y m i).length≤m.length:=by
  intro y m
  induction m with
  | nil=>intro i;simp [dJ]
  | cons z r ih=>intro i;simp only [dJ];split <;> simp <;> have:=ih (i + 1) <;> omega
 by_cases hin:x ∈ ks
 ·-- there already
  have hxd:x ∈ done:=(hk.2 x).1 hin
  have hne:dJ x done 0 ≠ []:=fun z=>(EX x done 0).1 z hxd
  have hlen:0 < (dJ x done 0).length:=List.length_pos_iff.2 hne
  have hix:ks.idxOf x < ks.length:=List.idxOf_lt_length_of_mem hin
  have hat:(Bx ++ ks.map fun x=>kN (dJ x done 0) ((dJ x done 0).length - 1) 0)[6 + ks.idxOf x]? = some (kN (dJ x done 0) ((dJ x done 0).length - 1) 0):=by
   rw [List.getElem?_append_right (by omega),hB,show 6 + ks.idxOf x - 6 = ks.idxOf x by omega,List.getElem?_map,List.getElem?_eq_getElem hix]
   simp
  have happ:=XO (done.length:Int) hat hne (by have:=hpl x done 0;omega)
  have hv:syV 6 0 ks done true x = .sl (6 + ks.idxOf x) 0 (dJ x done 0).length ((dJ x done 0).length - 1):=by simp [syV,hin]
  rw [hv,happ]
  have hpx:dJ x (done ++ [x]) 0 = dJ x done 0 ++ [(done.length:Int)]:=by rw [qF];simp
  refine ⟨6 + ks.idxOf x,(dJ x done 0).length + 1,(dJ x done 0).length - 1 + 1,(ks.map fun x=>kN (dJ x done 0) ((dJ x done 0).length - 1) 0).set (ks.idxOf x) (kN (dJ x done 0 ++ [(done.length:Int)]) ((dJ x done 0).length - 1 + 1) 0),ks,?_,⟨hk.1,?_⟩,?_,?_⟩
  ·rw [List.set_append_right _ _ (by omega),hB,show 6 + ks.idxOf x - 6 = ks.idxOf x by omega]
  ·intro y
   rw [hk.2 y]
   simp only [List.mem_append,List.mem_singleton]
   exact ⟨fun h=>.inl h,fun h=>h.elim id (fun e=>e ▸ hxd)⟩
  ·refine H9 6 0 ks ks done x _ hx ?_ fun y _=>⟨Iff.rfl,fun _=>rfl⟩
   unfold syV
   rw [if_pos hin,hpx]
   simp
   omega
  ·refine List.ext_getElem? fun j=>?_
   rw [List.getElem?_set]
   by_cases hj:j < ks.length
   ·by_cases e:ks.idxOf x = j
    ·subst e
     rw [if_pos rfl,if_pos (by simpa using hix),List.getElem?_map,List.getElem?_eq_getElem hix]
     simp only [Option.map_some,Option.some.injEq]
     rw [List.getElem_idxOf,hpx]
     simp
     congr 1;omega
    ·rw [if_neg e,List.getElem?_map,List.getElem?_map,List.getElem?_eq_getElem hj]
     simp only [Option.map_some,Option.some.injEq]
     have hne2:¬ x = ks[j]:=by
      intro z
      apply e
      rw [z]
      exact List.Nodup.idxOf_getElem hk.1 j hj
     rw [qF,if_neg hne2];simp
   ·rw [List.getElem?_eq_none (by simp;omega)]
    rw [if_neg (by omega),List.getElem?_eq_none (by simp;omega)]
 ·have hxd:x ∉ done:=fun h=>hin ((hk.2 x).2 h)
  have hp0:dJ x done 0 = []:=(EX x done 0).2 hxd
  have hv:syV 6 0 ks done true x = .ro 0 .pn 0:=by simp [syV,hin]
  have hpx:dJ x (done ++ [x]) 0 = [(done.length:Int)]:=by rw [qF,hp0];simp
  rw [hv,XM]
  have hix:(ks ++ [x]).idxOf x = ks.length:=by
   rw [List.idxOf_append,if_neg hin];simp
  refine ⟨(Bx ++ ks.map fun x=>kN (dJ x done 0) ((dJ x done 0).length - 1) 0).length,1,0,(ks.map fun x=>kN (dJ x done 0) ((dJ x done 0).length - 1) 0) ++ [kN [(done.length:Int)] 0 0],ks ++ [x],?_,⟨?_,?_⟩,?_,?_⟩
  ·rw [List.append_assoc]
  ·rw [List.nodup_append]
   exact ⟨hk.1,by simp,fun a ha b hb=>by simp at hb;subst hb;rintro rfl;exact hin ha⟩
  ·intro y
   simp only [List.mem_append,List.mem_singleton,hk.2 y]
  ·refine H9 6 0 ks (ks ++ [x]) done x _ hx ?_ fun y hy=>⟨by simp [hy],fun h=>by rw [List.idxOf_append,if_pos h]⟩
   unfold syV
   rw [if_pos (by simp),hpx,hix]
   simp [hB]
  ·rw [List.map_append]
   congr 1
   ·refine List.map_congr_left fun y hy=>?_
    have:¬ x = y:=fun z=>hin (z ▸ hy)
    rw [qF,if_neg this];simp
   ·simp [hpx]
end Go.Proofs.Ytcllinmgllmpmaa
namespace Go.Proofs.Ytcllinmgllmpmaa
open Go.AM
def BZ (c:Nat) (l:List Int) (i:Nat):AM.Frame:=[(4,.ptr 0 0 0 0),(5,.ptr 1 0 0 0),(7,.ptr 2 0 0 0),(9,.ptr 3 0 0 0),(10,.ptr 4 0 0 0),(11,.ptr 5 0 0 0),(21,.ro c (.pi .i64 l) 1),(22,.int .i64 l.length),(23,.int .i64 (i:Nat))]
theorem ML (c c2:Nat) (l:List Int) (b:List UInt8) (a:Int) (hl:l.length≤320) (hf:fine l = true):∃ code,Try.f88.body = some code ∧
  ∃ o,Run X T2 88 0 code [(0,.ro c (.pi .i64 l) 1),(1,.ro c2 (.pb b) 2),(2,.int .i64 a)] [] o ∧
   (∃ ks,JB ks l∧o = ⟨.ret,[(6,.fn 89 [.ptr 5 0 0 0,.ptr 1 0 0 0,.ptr 0 0 0 0,.ptr 3 0 0 0,.ptr 2 0 0 0,.ptr 4 0 0 0])],rdH c2 b a (bf l).1 (dW (bf l).1) ks l (mxL 0 l)⟩):=by
 refine ⟨_,rfl,?_⟩
 have hc:=fun H=>Ia (H:=H) (a:=.ro c (.pi .i64 l) 1) (l:=l) rfl (by omega)
 unfold cnt at hc
 have hfi:=fun H=>Ib (H:=H) (jT l)
 have hnl:=jT l
 have hfl:(dW (bf l).1).length = 17:=by unfold dW;rw [kY];rfl
 generalize (bf l).1 = n at *
 generalize dW n = fi at *
 apply EZ
 ·(refine ⟨0,?_⟩;conv=>lhs;simp (maxSteps:=2000000) -implicitDefEqProofs [-getElem?_pos,go_sem,eqV,ah])
 apply EZ
 ·(refine ⟨0,?_⟩;conv=>lhs;simp (maxSteps:=2000000) -implicitDefEqProofs [-getElem?_pos,go_sem,eqV,ah,hc,hnl])
 apply EZ
 ·(refine ⟨0,?_⟩;conv=>lhs;simp (maxSteps:=2000000) -implicitDefEqProofs [-getElem?_pos,go_sem,eqV,ah,hfi,hnl,hfl])
 apply EZ
 ·(refine ⟨0,?_⟩;conv=>lhs;simp (maxSteps:=2000000) -implicitDefEqProofs [-getElem?_pos,go_sem,eqV,ah])
 apply EZ
 ·(refine ⟨0,?_⟩;conv=>lhs;simp (maxSteps:=2000000) -implicitDefEqProofs [-getElem?_pos,go_sem,eqV,ah])
 refine XQ (P:=fun o=>∃ ks,JB ks l∧o = ⟨.exit 0,BZ c l l.length ++ [(24,.bool false)],rdH c2 b a n fi ks l (mxL 0 l)⟩) (fr1:=BZ c l 0) (H1:=rdH c2 b a n fi [] [] 0) ?_ (Tv (σ:=(List Int × List Int) × (List Int × Int)) (fun t=>t.1.1 ++ t.1.2 = l∧JB t.2.1 t.1.1∧mxL t.2.2 t.1.2 = mxL 0 l) (fun t=>BZ c l t.1.1.length) (fun t=>rdH c2 b a n fi t.2.1 t.1.1 t.2.2) (fun t o=>∃ ks,JB ks l∧o = ⟨.exit 0,BZ c l l.length ++ [(24,.bool false)],rdH c2 b a n fi ks l (mxL 0 l)⟩) (fun t=>t.1.2.length) ?_ (([],l),([],0)) ⟨rfl,⟨by simp,by simp⟩,rfl⟩) ?_
 ·(refine ⟨0,?_⟩;simp (maxSteps:=2000000) -implicitDefEqProofs [-getElem?_pos,go_sem,eqV,ah,BZ,rdH,jY,syV,jZ,pz,vP])
 ·rintro ⟨⟨done,todo⟩,⟨ks,m⟩⟩ ⟨hd,hk,hm⟩
  simp only at hd hk hm ⊢
  cases todo with
  | nil =>
   have hlen:done.length = l.length:=by rw [← hd];simp
   have hdl:done = l:=by simpa using hd
   subst hdl
   have hm':m = mxL 0 done:=by simpa [mxL] using hm
   refine ⟨⟨.exit 0,BZ c done done.length ++ [(24,.bool false)],rdH c2 b a n fi ks done (mxL 0 done)⟩,?_,.inr ⟨by simp,ks,hk,rfl⟩⟩
   rw [hm']
   apply Run.seq
   ·(refine ⟨0,?_⟩;conv=>lhs;simp (maxSteps:=2000000) -implicitDefEqProofs [-getElem?_pos,go_sem,eqV,ah,BZ])
   apply Run.bH
   ·(refine ⟨0,?_⟩;simp (maxSteps:=2000000) -implicitDefEqProofs [-getElem?_pos,go_sem,eqV,ah,BZ])
   ·simp
  | cons x todo =>
   have hlt:done.length < l.length:=by rw [← hd];simp
   have hget:l[done.length]? = some x:=by rw [← hd];simp
   have jU:(done.length:Int) < (l.length:Int):=by omega
   have e:IntKind.i64.wrap ((done.length:Int) + 1) = (done.length:Int) + 1:=wrap_i64 (by omega) (by omega)
   have hx:0≤x∧x≤15:=by
    have:=List.all_eq_true.1 hf x (by rw [← hd];simp)
    simpa using this
   obtain ⟨o2,n2,g2,R',ks',happ,hk',hset,hR⟩:=XP [jZ (.ro c2 (.pb b) 2) 0,jZ (.int .i64 a) 0,pz 16 n 0,pz 17 fi 0,vP (jY.map (syV 6 0 ks done true)) 0,jZ (.int .i64 m) 0] rfl ks done x hx hk (by omega)
   refine ⟨⟨.normal,BZ c l (done ++ [x]).length,rdH c2 b a n fi ks' (done ++ [x]) (if m < x then x else m)⟩,?_,.inl ⟨((done ++ [x],todo),(ks',if m < x then x else m)),⟨by simpa using hd,hk',by rw [← hm];rfl⟩,rfl,fun _ h=>h,by simp⟩⟩
   have hS:(jY.map (syV 6 0 ks done true))[x.toNat]? = some (syV 6 0 ks done true x):=by rw [List.getElem?_map,DZ hx];rfl
   have hSl:(jY.map (syV 6 0 ks done true)).length = 16:=by simp [jY]
   unfold rdH
   rw [← hset,← hR]
   generalize hA:jY.map (syV 6 0 ks done true) = A at *
   generalize syV 6 0 ks done true x = v at *
   generalize ks.map (fun x=>kN (dJ x done 0) ((dJ x done 0).length - 1) 0) = R at *
   simp only [jZ,pz,vP,List.cons_append,List.nil_append] at happ ⊢
   have hx16:x < 16:=by omega
   have hx0:=hx.1
   apply Run.seq
   ·(refine ⟨0,?_⟩;conv=>lhs;simp (maxSteps:=2000000) -implicitDefEqProofs [-getElem?_pos,go_sem,eqV,ah,BZ,jU])
   apply Run.seq
   ·(refine ⟨0,?_⟩;conv=>lhs;simp (maxSteps:=2000000) -implicitDefEqProofs [-getElem?_pos,go_sem,eqV,ah])
   have hfr:∀ i:Nat,BZ c l i = [(4,.ptr 0 0 0 0),(5,.ptr 1 0 0 0),(7,.ptr 2 0 0 0),(9,.ptr 3 0 0 0),(10,.ptr 4 0 0 0),(11,.ptr 5 0 0 0),(21,.ro c (.pi .i64 l) 1),(22,.int .i64 l.length),(23,.int .i64 (i:Nat))]:=fun _=>rfl
   apply Run.seq (fr':=BZ c l done.length) (H':=[some { p:=.pc [.ro c2 (.pb b) 2],g:=0,cap:=some 1,z:=1,row:=false,ids:=true,tg:=0 },some { p:=.pc [.int .i64 a],g:=0,cap:=some 1,z:=1,row:=false,ids:=true,tg:=0 },some { p:=.pi .i64 n,g:=0,cap:=some 16,z:=1,row:=false,ids:=false,tg:=0 },some { p:=.pi .i64 fi,g:=0,cap:=some 17,z:=1,row:=false,ids:=false,tg:=0 },some { p:=.pc (A.set x.toNat (.sl o2 0 n2 g2)),g:=0,cap:=some 16,z:=1,row:=false,ids:=true,tg:=0 },some { p:=.pc [.int .i64 (if m < x then x else m)],g:=0,cap:=some 1,z:=1,row:=false,ids:=true,tg:=0 }] ++ R')
   ·apply Run.block
    ·apply Run.seq
     ·(refine ⟨0,?_⟩;conv=>lhs;simp (maxSteps:=2000000) -implicitDefEqProofs [-getElem?_pos,go_sem,eqV,ah,hget,hlt])
     apply Run.seq (fr':=[(4,.ptr 0 0 0 0),(5,.ptr 1 0 0 0),(7,.ptr 2 0 0 0),(9,.ptr 3 0 0 0),(10,.ptr 4 0 0 0),(11,.ptr 5 0 0 0),(13,.int .i64 x),(21,.ro c (.pi .i64 l) 1),(22,.int .i64 l.length),(23,.int .i64 (done.length:Nat))]) (H':=[some { p:=.pc [.ro c2 (.pb b) 2],g:=0,cap:=some 1,z:=1,row:=false,ids:=true,tg:=0 },some { p:=.pc [.int .i64 a],g:=0,cap:=some 1,z:=1,row:=false,ids:=true,tg:=0 },some { p:=.pi .i64 n,g:=0,cap:=some 16,z:=1,row:=false,ids:=false,tg:=0 },some { p:=.pi .i64 fi,g:=0,cap:=some 17,z:=1,row:=false,ids:=false,tg:=0 },some { p:=.pc (A.set x.toNat (.sl o2 0 n2 g2)),g:=0,cap:=some 16,z:=1,row:=false,ids:=true,tg:=0 },some { p:=.pc [.int .i64 m],g:=0,cap:=some 1,z:=1,row:=false,ids:=true,tg:=0 }] ++ R')
     ·(refine ⟨0,?_⟩;simp (maxSteps:=2000000) -implicitDefEqProofs [-getElem?_pos,go_sem,eqV,ah,hS,hx0,hx16,happ,bsI,hSl])
     ·(refine ⟨0,?_⟩;simp (maxSteps:=2000000) -implicitDefEqProofs [-getElem?_pos,go_sem,eqV,ah,pR,hfr])
    ·simp
   ·(refine ⟨0,?_⟩;simp (maxSteps:=2000000) -implicitDefEqProofs [-getElem?_pos,go_sem,eqV,ah,e,hfr])
 ·rintro o ⟨ks,hk,rfl⟩
  refine .inl ⟨_,_,rfl,_,?_,ks,hk,rfl⟩
  have hsc:scalars [.ptr 5 0 0 0,.ptr 1 0 0 0,.ptr 0 0 0 0,.ptr 3 0 0 0,.ptr 2 0 0 0,.ptr 4 0 0 0] = true:=rfl
  refine ⟨0,?_⟩
  simp (maxSteps:=2000000) -implicitDefEqProofs [-getElem?_pos,go_sem,eqV,ah,BZ,hsc]
end Go.Proofs.Ytcllinmgllmpmaa
namespace Go.Proofs.Ytcllinmgllmpmaa
open Go.AM
def aV (l:List Int):List Int:=jY.filter (fun x=>decide (x ∈ l))
def nH (c:Nat) (b:List UInt8) (a m:Int) (n f l:List Int) (d t tb tn:Nat):AM.Heap :=
 [jZ (.int .i64 m) t,jZ (.int .i64 a) t,jZ (.ro c (.pb b) tb) t,pz 17 f t,pz 16 n t,vP (jY.map (syV (d + 6) tn (aV l) l false)) t] ++ (aV l).map fun x=>kN (dJ x l 0) 0 t
def oZ (l n f:List Int) (b:List UInt8) (a:Nat):Nat→Nat→Int→(Int × Int × Int) × Nat
 | 0,i,_=>((0,0,5),a + i - 1)
 | k + 1,i,code=>if 8 * b.length≤a + i - 1 then ((0,0,4),a + i - 1) else
  if 0≤2 * code + iU b (a + i - 1) - f.getD i 0∧2 * code + iU b (a + i - 1) - f.getD i 0 < n.getD i 0 then
   (((dJ i l 0).getD (2 * code + iU b (a + i - 1) - f.getD i 0).toNat 0,i,0),a + i)
  else oZ l n f b a k (i + 1) (2 * code + iU b (a + i - 1))
theorem or_bit (c x:Nat) (h:x≤1):(2 * c) ||| x = 2 * c + x:=by
 have:=Nat.shiftLeft_add_eq_or_of_lt (i:=1) (b:=x) (by omega) c
 rw [Nat.shiftLeft_eq,Nat.pow_one,Nat.mul_comm] at this
 exact this.symm
theorem Tz {v:Nat} (h:v < 256):(AM.bits .u8 (v:Int)).toNat = v:=by
 unfold AM.bits
 simp [IntKind.bits]
 omega
theorem Cb:(AM.bits .u8 1).toNat = 1:=by decide
theorem wo:∀ (l:List Int) (x:Int) (i:Nat),(dJ x l i).length = l.count x
 | [],x,i=>by simp [dJ]
 | y :: r,x,i=>by
  simp only [dJ,List.count_cons]
  by_cases h:y = x
  ·simp [h,wo r x (i + 1)]
  ·simp [h,wo r x (i + 1)]
def XR (code:Int) (i:Nat):AM.Frame:=[(0,.ptr 0 0 0 0),(1,.ptr 1 0 0 0),(2,.ptr 2 0 0 0),(3,.ptr 3 0 0 0),(4,.ptr 4 0 0 0),(5,.ptr 5 0 0 0),(9,.int .i64 code),(10,.int .i64 (i:Nat))]
def nxO (c:Nat) (b:List UInt8) (m:Int) (n f l:List Int) (t:Nat) (r:(Int × Int × Int) × Nat):AM.Out :=
 ⟨.ret,[(6,.int .i64 r.1.1),(7,.int .i64 r.1.2.1),(8,.int .i64 r.1.2.2)],nH c b (r.2:Nat) m n f l 0 t t t⟩
theorem Sm (T:Cf) (c t mm:Nat) (b:List UInt8) (a:Nat) (m:Int) (n f l:List Int) (hm:0≤m∧m≤15) (hl:l.length≤320) (hn:n.length = 16) (hf:f.length = 17) (hnv:∀ i:Nat,i < 16→n.getD i 0 = ct l i)
  (hfv:∀ i:Nat,i < 16→0≤f.getD i 0∧f.getD i 0 < 100000000) (hb:b.length≤100000) (ha:a < 9223372036854775808):∃ code,Try.f89.body = some code ∧
  Run X T 89 mm code [(0,.ptr 0 0 0 0),(1,.ptr 1 0 0 0),(2,.ptr 2 0 0 0),(3,.ptr 3 0 0 0),(4,.ptr 4 0 0 0),(5,.ptr 5 0 0 0)] (nH c b (a:Nat) m n f l 0 t t t) (nxO c b m n f l t (oZ l n f b a m.toNat 1 0)):=by
 refine ⟨_,rfl,?_⟩
 have hfr:∀ (code:Int) (i:Nat),XR code i = [(0,.ptr 0 0 0 0),(1,.ptr 1 0 0 0),(2,.ptr 2 0 0 0),(3,.ptr 3 0 0 0),(4,.ptr 4 0 0 0),(5,.ptr 5 0 0 0),(9,.int .i64 code),(10,.int .i64 (i:Nat))]:=fun _ _=>rfl
 generalize hSA:jY.map (syV (0 + 6) t (aV l) l false) = A
 generalize hRA:((aV l).map fun x=>kN (dJ x l 0) 0 t) = R
 have hH:∀ a:Int,nH c b a m n f l 0 t t t = some { p:=.pc [.int .i64 m],g:=0,cap:=some 1,z:=1,row:=false,ids:=true,tg:=t } :: some { p:=.pc [.int .i64 a],g:=0,cap:=some 1,z:=1,row:=false,ids:=true,tg:=t } ::
   some { p:=.pc [.ro c (.pb b) t],g:=0,cap:=some 1,z:=1,row:=false,ids:=true,tg:=t } :: some { p:=.pi .i64 f,g:=0,cap:=some 17,z:=1,row:=false,ids:=false,tg:=t } :: some { p:=.pi .i64 n,g:=0,cap:=some 16,z:=1,row:=false,ids:=false,tg:=t } ::
   some { p:=.pc A,g:=0,cap:=some 16,z:=1,row:=false,ids:=true,tg:=t } :: R:=by
  intro a
  rw [← hSA,← hRA]
  rfl
 apply Run.seq
 ·(refine ⟨0,?_⟩;conv=>lhs;simp (maxSteps:=2000000) -implicitDefEqProofs [-getElem?_pos,go_sem,eqV,ah,hH])
 apply Run.seq
 ·(refine ⟨0,?_⟩;conv=>lhs;simp (maxSteps:=2000000) -implicitDefEqProofs [-getElem?_pos,go_sem,eqV,ah])
 apply Run.seq (fr':=XR 0 1) (H':=nH c b (a:Nat) m n f l 0 t t t)
 ·(refine ⟨0,?_⟩;simp (maxSteps:=2000000) -implicitDefEqProofs [-getElem?_pos,go_sem,eqV,ah,hfr,hH])
 have hout:∀ r,jG 0 (nxO c b m n f l t r) = nxO c b m n f l t r:=fun _=>rfl
 rw [← hout]
 apply Run.block'
 refine Run.qC (σ:=Nat × Nat × Int) (fun s=>s.1 + s.2.1 = m.toNat + 1∧0 < s.2.1∧0≤s.2.2∧s.2.2 < 2 ^ (s.2.1 - 1)∧(s.2.1 = 1∨a + s.2.1 - 1≤8 * b.length)) (fun s=>XR s.2.2 s.2.1) (fun s=>nH c b ((a + s.2.1 - 1:Nat):Int) m n f l 0 t t t) (fun s=>nxO c b m n f l t (oZ l n f b a s.1 s.2.1 s.2.2)) (fun s=>s.1) ?_ (m.toNat,1,0) ⟨rfl,by simp,by simp,by simp,.inl rfl⟩
 rintro ⟨k,i,code⟩ ⟨hk,hi0,hc0,hc1,hai⟩
 simp only at hk hi0 hc0 hc1 hai ⊢
 have ha2:a + i - 1 < 9223372036854775808:=by omega
 have hai2:a + i - 1 + 1 = a + i:=by omega
 have agr:a + (i + 1) - 1 = a + i:=by omega
 generalize hq:a + i - 1 = q at *
 cases k with
 | zero =>
  right
  refine ⟨?_,by simp [nxO]⟩
  have hgt:m < (i:Int):=by omega
  unfold nxO oZ
  rw [hq]
  apply Run.bH
  ·(refine ⟨0,?_⟩;simp (maxSteps:=2000000) -implicitDefEqProofs [-getElem?_pos,go_sem,eqV,ah,hfr,hH,hgt])
  ·simp
 | succ k =>
  have hle:¬ (m < (i:Int)):=by omega
  have hq8:((q:Nat):Int).tdiv 8 = ((q / 8:Nat):Int):=by rw [Int.tdiv_eq_ediv_of_nonneg (by omega)];omega
  have Vz:((q:Nat):Int) / 8 = ((q / 8:Nat):Int):=by omega
  by_cases hs:8 * b.length≤q
  ·right
   refine ⟨?_,by simp [nxO]⟩
   unfold nxO oZ
   rw [hq,if_pos hs]
   have hs8:(b.length:Int)≤((q / 8:Nat):Int):=by omega
   have w1:IntKind.i64.wrap ((q / 8:Nat):Int) = ((q / 8:Nat):Int):=wrap_i64 (by omega) (by omega)
   generalize q / 8 = q8 at *
   apply Run.bH
   ·(refine ⟨0,?_⟩;simp (maxSteps:=2000000) -implicitDefEqProofs [-getElem?_pos,go_sem,eqV,ah,hfr,hH,hle,hq8,Vz,w1,hs8])
   ·simp
  ·have XT:i≤15:=by omega
   have hq0:q / 8 < b.length:=by omega
   obtain ⟨y,hget⟩:∃ y,b[q / 8]? = some y:=⟨_,List.getElem?_eq_getElem hq0⟩
   have hrb:iU b q = ((y.toNat / 2 ^ (q % 8) % 2:Nat):Int):=by
    unfold iU
    rw [List.getD_eq_getElem?_getD,hget];rfl
   have hr8:q % 8 < 8:=by omega
   have e2:((q:Nat):Int).tmod 8 = ((q % 8:Nat):Int):=by rw [Int.tmod_eq_emod_of_nonneg (by omega)];omega
   have e4:((q:Nat):Int) % 8 = ((q % 8:Nat):Int):=by omega
   have w1:IntKind.i64.wrap ((q / 8:Nat):Int) = ((q / 8:Nat):Int):=wrap_i64 (by omega) (by omega)
   have w2:IntKind.i64.wrap ((q % 8:Nat):Int) = ((q % 8:Nat):Int):=wrap_i64 (by omega) (by omega)
   have hs8:¬ (b.length:Int)≤((q / 8:Nat):Int):=by omega
   have w9:IntKind.i64.wrap ((q:Nat) + 1) = ((a + i:Nat):Int):=by rw [wrap_i64 (by omega) (by omega)];omega
   have hv:((y.toNat:Nat):Int).fdiv (2 ^ (q % 8)) = ((y.toNat / 2 ^ (q % 8):Nat):Int):=by
    rw [Int.fdiv_eq_ediv_of_nonneg _ (by exact Int.le_of_lt (Int.pow_pos (by omega)))];simp
   have hvl:y.toNat / 2 ^ (q % 8) < 256:=Nat.lt_of_le_of_lt (Nat.div_le_self _ _) y.toNat_lt
   have hm8:min (q % 8) IntKind.u8.bits = q % 8:=by simp [IntKind.bits];omega
   have abM:min (q % 8) 8 = q % 8:=by omega
   obtain ⟨cn,rfl⟩:∃ cn:Nat,code = (cn:Int):=⟨code.toNat,by omega⟩
   have hp:(2:Int) ^ (i - 1)≤2 ^ 14:=by
    have:=Nat.pow_le_pow_right (n:=2) (by omega) (show i - 1≤14 by omega)
    exact_mod_cast this
   have hcn:cn < 16384:=by omega
   have hp2:(2:Int) ^ i = 2 * 2 ^ (i - 1):=by
    conv=>lhs;rw [show i = (i - 1) + 1 by omega]
    rw [Int.pow_succ];omega
   generalize q % 8 = r8 at *
   generalize anF:q / 8 = q8 at *
   generalize y.toNat / 2 ^ r8 = v at *
   obtain ⟨x,hx⟩:∃ x,x = v % 2:=⟨_,rfl⟩
   have hx1:x≤1:=by omega
   rw [← hx] at hrb
   have hr0:¬ ((r8:Int) < 0):=by omega
   have hb8:=Tz hvl
   have hU1:IntKind.u8.wrap ((v &&& 1:Nat):Int) = (x:Int):=by rw [Nat.and_one_is_mod,← hx,wrap_u8 (by omega) (by omega)]
   have hU2:IntKind.u8.wrap ((v:Int) % 2) = (x:Int):=by rw [wrap_u8 (by omega) (by omega)];omega
   have hX:IntKind.i64.wrap (x:Int) = (x:Int):=wrap_i64 (by omega) (by omega)
   have hXb:=bits_nat (v:=x) (by omega)
   obtain ⟨c2,hc2⟩:∃ c2,c2 = 2 * cn:=⟨_,rfl⟩
   have hC2:IntKind.i64.wrap ((cn:Int) * 2) = (c2:Int):=by rw [wrap_i64 (by omega) (by omega)];omega
   have ZQ:=bits_nat (v:=c2) (by omega)
   have hmn:min 1 IntKind.i64.bits = 1:=by decide
   obtain ⟨c3,hc3⟩:∃ c3,c3 = 2 * cn + x:=⟨_,rfl⟩
   have hC3:IntKind.i64.wrap ((c2 ||| x:Nat):Int) = (c3:Int):=by rw [hc2,or_bit cn x hx1,← hc3,wrap_i64 (by omega) (by omega)]
   have hAnd:IntKind.u8.wrap ((AM.bits .u8 (v:Int) &&& AM.bits .u8 1).toNat:Nat) = (x:Int):=by rw [BitVec.toNat_and,hb8,Cb,hU1]
   have hOr:IntKind.i64.wrap ((AM.bits .i64 (c2:Int) ||| AM.bits .i64 (x:Int)).toNat:Nat) = (c3:Int):=by rw [BitVec.toNat_or,ZQ,hXb,hC3]
   simp only [go_sem] at hAnd hOr
   have hcode:2 * (cn:Int) + iU b q = (c3:Int):=by rw [hrb];omega
   have hdec:oZ l n f b a (k + 1) i (cn:Int) = if 0≤(c3:Int) - f.getD i 0∧(c3:Int) - f.getD i 0 < n.getD i 0 then
     (((dJ i l 0).getD ((c3:Int) - f.getD i 0).toNat 0,(i:Int),0),a + i) else oZ l n f b a k (i + 1) (c3:Int):=by
    conv=>lhs;unfold oZ
    rw [hq,if_neg hs,hcode]
   have hfi:=hfv i (by omega)
   have hni:=hnv i (by omega)
   have hfg:f[i]? = some (f.getD i 0):=by rw [List.getD_eq_getElem?_getD,List.getElem?_eq_getElem (by omega)];rfl
   have hng:n[i]? = some (n.getD i 0):=by rw [List.getD_eq_getElem?_getD,List.getElem?_eq_getElem (by omega)];rfl
   have XU:(i:Int) < 17:=by omega
   have TA:(i:Int) < 16:=by omega
   have hK:IntKind.i64.wrap ((c3:Int) - f.getD i 0) = (c3:Int) - f.getD i 0:=wrap_i64 (by omega) (by omega)
   have hi1:IntKind.i64.wrap ((i:Int) + 1) = (i:Int) + 1:=wrap_i64 (by omega) (by omega)
   have ags:(c3:Int) < 2 ^ i:=by omega
   generalize f.getD i 0 = fi at *
   generalize anG:n.getD i 0 = ni at *
   by_cases hhit:0≤(c3:Int) - fi∧(c3:Int) - fi < ni
   ·right
    refine ⟨?_,by simp [nxO]⟩
    rw [hdec,if_pos hhit]
    obtain ⟨hk0,hkn⟩:=hhit
    have hin:(i:Int) ∈ l:=by
     have h1:(dJ i l 0).length = l.count (i:Int):=wo l i 0
     unfold ct at hni
     exact List.count_pos_iff.1 (by omega)
    have hlen:((dJ i l 0).length:Int) = ni:=by
     rw [wo,hni];rfl
    have hpr:(i:Int) ∈ aV l:=by
     unfold aV
     rw [List.mem_filter]
     exact ⟨List.mem_of_getElem? (EY (by omega)),by simpa using hin⟩
    have hA:A[i]? = some (.sl (6 + (aV l).idxOf (i:Int)) 0 (dJ i l 0).length 0):=by
     rw [← hSA,List.getElem?_map,EY (by omega)]
     simp [syV,hpr]
    have hAl:A.length = 16:=by rw [← hSA];simp [jY]
    have hRr:R[(aV l).idxOf (i:Int)]? = some (kN (dJ i l 0) 0 t):=by
     rw [← hRA,List.getElem?_map,List.getElem?_eq_getElem (List.idxOf_lt_length_of_mem hpr)]
     simp
    generalize (aV l).idxOf (i:Int) = j at *
    have hrow:∀ a:Int,(nH c b a m n f l 0 t t t)[6 + j]? = some (kN (dJ i l 0) 0 t):=by
     intro a
     rw [hH a,Nat.add_comm]
     simpa using hRr
    have hkI:((c3:Int) - fi).toNat < (dJ i l 0).length:=by omega
    obtain ⟨z,hz⟩:∃ z,(dJ i l 0)[((c3:Int) - fi).toNat]? = some z:=⟨_,List.getElem?_eq_getElem hkI⟩
    have hzd:(dJ i l 0).getD ((c3:Int) - fi).toNat 0 = z:=by rw [List.getD_eq_getElem?_getD,hz];rfl
    rw [hzd]
    have hkl:(c3:Int) - fi < ((dJ i l 0).length:Int):=by omega
    unfold nxO
    generalize dJ i l 0 = ps at *
    generalize 6 + j = o at *
    simp only [hH] at hrow
    unfold kN at hrow
    generalize hkk:(c3:Int) - fi = kk at hk0 hkn hz hkl
    have hK2:IntKind.i64.wrap ((c3:Int) - fi) = kk:=by rw [hK,hkk]
    apply Run.bH
    ·apply Run.block
     ·apply Run.seq
      ·(refine ⟨0,?_⟩;conv=>lhs;simp (maxSteps:=2000000) -implicitDefEqProofs [-getElem?_pos,go_sem,eqV,ah,hfr,hH,hle])
      apply Run.seq
      ·(refine ⟨0,?_⟩;conv=>lhs;simp (maxSteps:=2000000) -implicitDefEqProofs [-getElem?_pos,go_sem,eqV,ah,hq8,Vz,w1,hs8])
      apply Run.seq
      ·(refine ⟨0,?_⟩;conv=>lhs;simp (maxSteps:=2000000) -implicitDefEqProofs [-getElem?_pos,go_sem,eqV,ah,hq8,Vz,w1,hs8,hget,e2,e4,w2,hr0,hm8,abM,hv,hb8,Cb,hAnd,hOr,hU1,hU2,hX,hmn,hC2,ZQ,hXb,hC3,hq0])
      apply Run.seq
      ·(refine ⟨0,?_⟩;conv=>lhs;simp (maxSteps:=2000000) -implicitDefEqProofs [-getElem?_pos,go_sem,eqV,ah,w9])
      apply Run.seq
      ·(refine ⟨0,?_⟩;conv=>lhs;simp (maxSteps:=2000000) -implicitDefEqProofs [-getElem?_pos,go_sem,eqV,ah,XU,hfg,hK2,hf])
      (refine ⟨0,?_⟩;simp (maxSteps:=2000000) -implicitDefEqProofs [-getElem?_pos,go_sem,eqV,ah,hH,hk0,hkn,TA,hng,hn,hA,hAl,hrow,hz,hkl])
     ·simp
    ·simp
   ·left
    refine ⟨(k,i + 1,(c3:Int)),⟨by simp;omega,by simp,by simp,by simpa using ags,.inr (by simp;omega)⟩,?_,by rw [hdec,if_neg hhit],by simp⟩
    simp only [agr]
    apply Run.seq (fr':=XR (c3:Int) i ++ [(11,.int .i64 ((c3:Int) - fi)),(50,.bool false)]) (H':=nH c b ((a + i:Nat):Int) m n f l 0 t t t)
    ·apply Run.block
     ·apply Run.seq
      ·(refine ⟨0,?_⟩;conv=>lhs;simp (maxSteps:=2000000) -implicitDefEqProofs [-getElem?_pos,go_sem,eqV,ah,hfr,hH,hle])
      apply Run.seq
      ·(refine ⟨0,?_⟩;conv=>lhs;simp (maxSteps:=2000000) -implicitDefEqProofs [-getElem?_pos,go_sem,eqV,ah,hq8,Vz,w1,hs8])
      apply Run.seq
      ·(refine ⟨0,?_⟩;conv=>lhs;simp (maxSteps:=2000000) -implicitDefEqProofs [-getElem?_pos,go_sem,eqV,ah,hq8,Vz,w1,hs8,hget,e2,e4,w2,hr0,hm8,abM,hv,hb8,Cb,hAnd,hOr,hU1,hU2,hX,hmn,hC2,ZQ,hXb,hC3,hq0])
      apply Run.seq
      ·(refine ⟨0,?_⟩;conv=>lhs;simp (maxSteps:=2000000) -implicitDefEqProofs [-getElem?_pos,go_sem,eqV,ah,w9])
      apply Run.seq
      ·(refine ⟨0,?_⟩;conv=>lhs;simp (maxSteps:=2000000) -implicitDefEqProofs [-getElem?_pos,go_sem,eqV,ah,XU,hfg,hK,hf])
      by_cases hk0:0≤(c3:Int) - fi
      ·have hkn:¬ ((c3:Int) - fi < ni):=fun z=>hhit ⟨hk0,z⟩
       generalize (c3:Int) - fi = kk at *
       (refine ⟨0,?_⟩;simp (maxSteps:=2000000) -implicitDefEqProofs [-getElem?_pos,go_sem,eqV,ah,hfr,hH,hk0,hkn,TA,hng,hn])
      ·generalize (c3:Int) - fi = kk at *
       (refine ⟨0,?_⟩;simp (maxSteps:=2000000) -implicitDefEqProofs [-getElem?_pos,go_sem,eqV,ah,hfr,hH,hk0])
     ·simp
    ·(refine ⟨0,?_⟩;simp (maxSteps:=2000000) -implicitDefEqProofs [-getElem?_pos,go_sem,eqV,ah,hfr,hH,hi1])
end Go.Proofs.Ytcllinmgllmpmaa
namespace Go.Proofs.Ytcllinmgllmpmaa
open Go.AM
theorem yY (H:AM.Heap):∀ (L acc:List Nat) (n:Nat),L.length < n→(∀ o ∈ L,∃ ob,H[o]? = some (some ob)∧ob.ids = false)→L.Nodup→(∀ o ∈ L,o ∉ acc)→reach H n L acc = acc ++ L
 | [],acc,n,_,_,_,_=>by rw [ug];simp
 | o :: r,acc,0,h,_,_,_=>by simp at h
 | o :: r,acc,n + 1,h,h1,h2,h3=>by
  obtain ⟨ob,ho,hob⟩:=h1 o (by simp)
  have hc:acc.contains o = false:=by
   rw [Bool.eq_false_iff]
   intro z
   exact h3 o (by simp) (List.contains_iff_mem.1 z)
  rw [reach,hc]
  simp only [Bool.false_eq_true,if_false,ho,hob,List.nil_append]
  rw [yY H r (acc ++ [o]) n (by simpa using h) (fun a ha=>h1 a (List.mem_cons_of_mem _ ha)) (List.nodup_cons.1 h2).2 (fun a ha z=>by
   rcases List.mem_append.1 z with z | z
   ·exact h3 a (List.mem_cons_of_mem _ ha) z
   ·simp only [List.mem_singleton] at z
    subst z
    exact (List.nodup_cons.1 h2).1 ha)]
  simp
theorem JD (d tn:Nat) (ks l:List Int) (gr:Bool):∀ zs:List Int,aA (zs.map (syV d tn ks l gr)) = (zs.filter fun x=>decide (x ∈ ks)).map fun x=>d + ks.idxOf x
 | []=>rfl
 | z :: r=>by
  simp only [List.map_cons,aA,JD d tn ks l gr r,List.filter_cons]
  by_cases h:z ∈ ks
  ·simp [syV,h,ids]
  ·simp [syV,h,ids]
theorem Fa (d tn:Nat) (ks l:List Int) (gr:Bool):∀ zs:List Int,∀ t ∈ aU (zs.map (syV d tn ks l gr)),t = tn
 | [],t,h=>by simp [aU] at h
 | z :: r,t,h=>by
  simp only [List.map_cons,aU,List.mem_append] at h
  rcases h with h | h
  ·by_cases hz:z ∈ ks
   ·simp [syV,hz,tags] at h
   ·simpa [syV,hz,tags] using h
  ·exact Fa d tn ks l gr r t h
theorem Ic {g:Int→Nat}:∀ (zs:List Int) (x:Int) (k:Nat),x ∈ zs→(∀ y ∈ zs,g y = g x→y = x)→AM.idxOf (zs.map g) (g x) k = some (k + zs.idxOf x)
 | [],x,k,h,_=>by simp at h
 | z :: r,x,k,h,hg=>by
  simp only [List.map_cons,AM.idxOf]
  by_cases e:z = x
  ·subst e;simp
  ·have e2:¬ g z = g x:=fun w=>e (hg z (by simp) w)
   rw [if_neg e2,Ic r x (k + 1) ((List.mem_cons.1 h).resolve_left fun w=>e w.symm) (fun y hy=>hg y (List.mem_cons_of_mem _ hy)),List.idxOf_cons]
   have e3:(z == x) = false:=by simpa using e
   rw [e3]
   simp
   omega
theorem Ie:∀ (P L:List Nat) (o k:Nat),o ∉ P→AM.idxOf (P ++ L) o k = AM.idxOf L o (k + P.length)
 | [],L,o,k,_=>rfl
 | p :: P,L,o,k,h=>by
  simp only [List.mem_cons,not_or] at h
  simp only [List.cons_append,AM.idxOf,List.length_cons]
  rw [if_neg (fun z=>h.1 z.symm),Ie P L o (k + 1) h.2]
  congr 1;omega
theorem Fb:∀ l:List Nat,strike l [] = []
 | []=>rfl
 | o :: r=>by simp only [strike,upd,List.set_nil];exact Fb r
theorem Cc {l:List Int} (hf:fine l = true) (x:Int):x ∈ aV l ↔ x ∈ l:=by
 unfold aV
 rw [List.mem_filter]
 constructor
 ·exact fun h=>by simpa using h.2
 ·intro h
  have hx:0≤x∧x≤15:=by
   have:=List.all_eq_true.1 hf x h
   simpa using this
  exact ⟨List.mem_of_getElem? (DZ hx),by simpa using h⟩
theorem Dp (l:List Int):(aV l).Nodup:=List.Pairwise.filter _ (by decide)
theorem Ce (l:List Int):(aV l).length≤16:=Nat.le_trans (List.length_filter_le _ _) (by decide)
theorem VA {ks l:List Int} (hk:JB ks l):(jY.filter fun x=>decide (x ∈ ks)) = aV l:=by
 unfold aV
 refine List.filter_congr fun x _=>?_
 simp [hk.2 x]
theorem iK (ρ:Nat→Nat→Option (Nat × Nat)) (τ:Nat→Nat) (g:Int→AV):∀ zs:List Int,bn ρ τ (zs.map g) = zs.map fun x=>ren ρ τ (g x)
 | []=>rfl
 | z :: r=>by simp only [List.map_cons,bn,iK ρ τ g r]
end Go.Proofs.Ytcllinmgllmpmaa
namespace Go.Proofs.Ytcllinmgllmpmaa
open Go.AM
theorem VB {c:Nat} {b:List UInt8} {a m:Int} {n f ks l:List Int} (hf:fine l = true) (hk:JB ks l) :
  reach (rdH c b a n f ks l m) aB [5,1,0,3,2,4] [] = [5,1,0,3,2,4] ++ (aV l).map fun x=>6 + ks.idxOf x:=by
 have h0:(rdH c b a n f ks l m)[0]? = some (jZ (.ro c (.pb b) 2) 0):=rfl
 have h1:(rdH c b a n f ks l m)[1]? = some (jZ (.int .i64 a) 0):=rfl
 have h2:(rdH c b a n f ks l m)[2]? = some (pz 16 n 0):=rfl
 have h3:(rdH c b a n f ks l m)[3]? = some (pz 17 f 0):=rfl
 have h4:(rdH c b a n f ks l m)[4]? = some (vP (jY.map (syV 6 0 ks l true)) 0):=rfl
 have h5:(rdH c b a n f ks l m)[5]? = some (jZ (.int .i64 m) 0):=rfl
 have hL:aA (jY.map (syV 6 0 ks l true)) = (aV l).map fun x=>6 + ks.idxOf x:=by rw [JD,VA hk]
 have hmem:∀ x,x ∈ aV l→x ∈ ks:=fun x hx=>(hk.2 x).2 ((Cc hf x).1 hx)
 have hinj:∀ x ∈ aV l,∀ y ∈ aV l,6 + ks.idxOf x = 6 + ks.idxOf y→x = y:=by
  intro x hx y hy e
  have h1:=List.getElem_idxOf (List.idxOf_lt_length_of_mem (hmem x hx))
  have h2:=List.getElem_idxOf (List.idxOf_lt_length_of_mem (hmem y hy))
  have e':ks.idxOf x = ks.idxOf y:=by omega
  rw [← h1,← h2]
  simp only [e']
 have MN:∀ o ∈ (aV l).map (fun x=>6 + ks.idxOf x),∃ ob,(rdH c b a n f ks l m)[o]? = some (some ob)∧ob.ids = false:=by
  intro o ho
  obtain ⟨x,hx,rfl⟩:=List.mem_map.1 ho
  have hlt:=List.idxOf_lt_length_of_mem (hmem x hx)
  refine ⟨⟨.pi .i64 (dJ x l 0),(dJ x l 0).length - 1,.none,(if (dJ x l 0).length≤1 then 0 else 1),true,false,0⟩,?_,rfl⟩
  unfold rdH
  rw [List.getElem?_append_right (by simp),List.getElem?_map]
  simp only [List.length_cons,List.length_nil]
  rw [show 6 + ks.idxOf x - 6 = ks.idxOf x by omega,List.getElem?_eq_getElem hlt]
  simp [kN]
 have hnd:((aV l).map fun x=>6 + ks.idxOf x).Nodup:=by
  rw [List.nodup_iff_pairwise_ne,List.pairwise_map]
  refine (List.nodup_iff_pairwise_ne.1 (Dp l)).imp_of_mem ?_
  intro x y hx hy hne e
  exact hne (hinj x hx y hy e)
 have hend:=yY (rdH c b a n f ks l m) ((aV l).map fun x=>6 + ks.idxOf x) [5,1,0,3,2,4] 99994 (by have:=Ce l;simp;omega) MN hnd (by
  intro o ho
  obtain ⟨x,_,rfl⟩:=List.mem_map.1 ho
  simp;omega)
 show reach _ (99994 + 1 + 1 + 1 + 1 + 1 + 1) [5,1,0,3,2,4] [] = _
 rw [← hL] at hend ⊢
 generalize rdH c b a n f ks l m = H at *
 unfold jZ at h0 h1 h5
 unfold pz at h2 h3
 unfold vP at h4
 simp [reach,h0,h1,h2,h3,h4,h5,ids,aA,hend]
theorem mW:∀ (P L:List (Option AM.Obj)),ay (P ++ L) = ay P ++ ay L
 | [],L=>rfl
 | some ob :: r,L=>by simp only [List.cons_append,ay,mW r L,List.append_assoc]
 | none :: r,L=>by simp only [List.cons_append,ay,mW r L]
theorem sU (t:Nat) (h:Int→List Int) (g:Int→Nat):∀ zs:List Int,∀ u ∈ ay (zs.map fun x=>kN (h x) (g x) t),u = t
 | [],u,hu=>by simp [ay] at hu
 | z :: r,u,hu=>by
  simp only [List.map_cons,kN,ay,dF,List.mem_append] at hu
  rcases hu with hu | hu
  ·simpa using hu
  ·exact sU t h g r u hu
theorem XV {c:Nat} {b:List UInt8} {a m:Int} {n f ks l:List Int} (hf:fine l = true) (hk:JB ks l) :
  wrap [] [] [⟨[],[1]⟩,⟨[],[2]⟩,⟨[],[]⟩,⟨[],[]⟩] (.fn 89 [.ptr 5 0 0 0,.ptr 1 0 0 0,.ptr 0 0 0 0,.ptr 3 0 0 0,.ptr 2 0 0 0,.ptr 4 0 0 0]) (rdH c b a n f ks l m) =
   some (.fn 89 [.ptr 0 0 0 0,.ptr 1 0 0 0,.ptr 2 0 0 0,.ptr 3 0 0 0,.ptr 4 0 0 0,.ptr 5 0 0 0],nH c b a m n f l 0 0 2 0):=by
 have hr:=VB (c:=c) (b:=b) (a:=a) (m:=m) (n:=n) (f:=f) hf hk
 have hmem:∀ x,x ∈ aV l→x ∈ ks:=fun x hx=>(hk.2 x).2 ((Cc hf x).1 hx)
 have hinj:∀ x ∈ aV l,∀ y ∈ aV l,6 + ks.idxOf x = 6 + ks.idxOf y→x = y:=by
  intro x hx y hy e
  have h1:=List.getElem_idxOf (List.idxOf_lt_length_of_mem (hmem x hx))
  have h2:=List.getElem_idxOf (List.idxOf_lt_length_of_mem (hmem y hy))
  have e':ks.idxOf x = ks.idxOf y:=by omega
  rw [← h1,← h2]
  simp only [e']
 have hat:∀ x ∈ aV l,(rdH c b a n f ks l m)[6 + ks.idxOf x]? = some (kN (dJ x l 0) ((dJ x l 0).length - 1) 0):=by
  intro x hx
  have hlt:=List.idxOf_lt_length_of_mem (hmem x hx)
  unfold rdH
  rw [List.getElem?_append_right (by simp),List.getElem?_map]
  simp only [List.length_cons,List.length_nil]
  rw [show 6 + ks.idxOf x - 6 = ks.idxOf x by omega,List.getElem?_eq_getElem hlt]
  simp
 have h0:(rdH c b a n f ks l m)[0]? = some (jZ (.ro c (.pb b) 2) 0):=rfl
 have h1:(rdH c b a n f ks l m)[1]? = some (jZ (.int .i64 a) 0):=rfl
 have h2:(rdH c b a n f ks l m)[2]? = some (pz 16 n 0):=rfl
 have h3:(rdH c b a n f ks l m)[3]? = some (pz 17 f 0):=rfl
 have h4:(rdH c b a n f ks l m)[4]? = some (vP (jY.map (syV 6 0 ks l true)) 0):=rfl
 have h5:(rdH c b a n f ks l m)[5]? = some (jZ (.int .i64 m) 0):=rfl
 have hrows:((aV l).map fun x=>6 + ks.idxOf x).map (aX (rdH c b a n f ks l m)) = (aV l).map fun x=>kN (dJ x l 0) ((dJ x l 0).length - 1) 0:=by
  rw [List.map_map]
  refine List.map_congr_left fun x hx=>?_
  simp only [Function.comp_apply,aX,hat x hx,Option.getD_some]
 generalize hLd:(aV l).map (fun x=>6 + ks.idxOf x) = L at *
 have hnew:(reach (rdH c b a n f ks l m) aB (List.range ([]:List Nat).length ++ ids (.fn 89 [.ptr 5 0 0 0,.ptr 1 0 0 0,.ptr 0 0 0 0,.ptr 3 0 0 0,.ptr 2 0 0 0,.ptr 4 0 0 0])) []) = [5,1,0,3,2,4] ++ L:=hr
 have hfil:([5,1,0,3,2,4] ++ L).filter (fun o=>decide (([]:List Nat).length≤o)) = [5,1,0,3,2,4] ++ L:=List.filter_eq_self.2 fun o _=>by simp
 have hob:([5,1,0,3,2,4] ++ L).map (aX (rdH c b a n f ks l m)) = [jZ (.int .i64 m) 0,jZ (.int .i64 a) 0,jZ (.ro c (.pb b) 2) 0,pz 17 f 0,pz 16 n 0,vP (jY.map (syV 6 0 ks l true)) 0] ++ (aV l).map fun x=>kN (dJ x l 0) ((dJ x l 0).length - 1) 0:=by
  rw [List.map_append,hrows]
  simp [aX,h0,h1,h2,h3,h4,h5]
 have hidx:∀ x ∈ aV l,AM.idxOf ([5,1,0,3,2,4] ++ L) (6 + ks.idxOf x) 0 = some (6 + (aV l).idxOf x):=by
  intro x hxp
  rw [Ie _ _ _ _ (by simp;omega),← hLd]
  exact Ic (g:=fun x=>6 + ks.idxOf x) (aV l) x 6 hxp fun y hy e=>hinj y hy x hxp e
 have i0:AM.idxOf ([5,1,0,3,2,4] ++ L) 0 0 = some 2:=rfl
 have i1:AM.idxOf ([5,1,0,3,2,4] ++ L) 1 0 = some 1:=rfl
 have i2:AM.idxOf ([5,1,0,3,2,4] ++ L) 2 0 = some 4:=rfl
 have i3:AM.idxOf ([5,1,0,3,2,4] ++ L) 3 0 = some 3:=rfl
 have i4:AM.idxOf ([5,1,0,3,2,4] ++ L) 4 0 = some 5:=rfl
 have i5:AM.idxOf ([5,1,0,3,2,4] ++ L) 5 0 = some 0:=rfl
 generalize [5,1,0,3,2,4] ++ L = NW at *
 generalize hτ:bV [⟨[],[1]⟩,⟨[],[2]⟩,⟨[],[]⟩,⟨[],[]⟩] = τ at *
 have τ0:τ 0 = 0:=by rw [← hτ];rfl
 have τ2:τ 2 = 2:=by rw [← hτ];rfl
 generalize hρ:bQ [] [] NW (rdH c b a n f ks l m) = ρ at *
 -- the callee's names in the caller's
 have hsy:∀ x ∈ jY,ren ρ τ (syV 6 0 ks l true x) = syV (0 + 6) 0 (aV l) l false x:=by
  intro x hx16
  by_cases hx:x ∈ ks
  ·have hxp:x ∈ aV l:=(Cc hf x).2 ((hk.2 x).1 hx)
   have hlive:live (rdH c b a n f ks l m) (6 + ks.idxOf x) ((dJ x l 0).length - 1) = some ⟨.pi .i64 (dJ x l 0),(dJ x l 0).length - 1,.none,(if (dJ x l 0).length≤1 then 0 else 1),true,false,0⟩:=by
    unfold live
    rw [hat x hxp]
    simp [kN]
   simp [syV,hx,hxp,ren,← hρ,bQ,hlive,hidx x hxp]
  ·have hxp:x ∉ aV l:=fun z=>hx (hmem x z)
   simp [syV,hx,hxp,ren,τ0]
 have hlv:∀ o ob,(rdH c b a n f ks l m)[o]? = some (some ob)→ob.g = 0→∀ k,AM.idxOf NW o 0 = some k→ρ o 0 = some (k,0):=by
  intro o ob ho hg k hk
  simp [← hρ,bQ,live,ho,hg,hk]
 have g0:=hlv 0 _ h0 rfl 2 i0
 have g1:=hlv 1 _ h1 rfl 1 i1
 have g2:=hlv 2 _ h2 rfl 4 i2
 have g3:=hlv 3 _ h3 rfl 3 i3
 have g4:=hlv 4 _ h4 rfl 5 i4
 have g5:=hlv 5 _ h5 rfl 0 i5
 have hmap:NW.map (fun o=>(aX (rdH c b a n f ks l m) o).map (aT ρ τ 0)) = nH c b a m n f l 0 0 2 0:=by
  have e:NW.map (fun o=>(aX (rdH c b a n f ks l m) o).map (aT ρ τ 0)) = (NW.map (aX (rdH c b a n f ks l m))).map (Option.map (aT ρ τ 0)):=by rw [List.map_map];rfl
  rw [e,hob]
  unfold nH
  rw [List.map_append]
  congr 1
  ·simp only [List.map_cons,List.map_nil,jZ,pz,vP,Option.map_some,aT,ren,bn,iK,τ0,τ2]
   rw [List.map_congr_left hsy]
  ·rw [List.map_map]
   refine List.map_congr_left fun x hx=>?_
   simp only [Function.comp_apply,kN,Option.map_some,aT,ren,τ0]
 have VD:∀ u ∈ ay (NW.map (aX (rdH c b a n f ks l m))),u = 0∨u = 2:=by
  intro u hu
  rw [hob,mW,List.mem_append] at hu
  rcases hu with hu | hu
  ·simp only [jZ,pz,vP,ay,dF,if_true,tags,aU,List.mem_append,List.append_nil,List.nil_append] at hu
   simp only [Bool.false_eq_true,if_false,List.cons_append,List.nil_append,List.mem_cons,List.not_mem_nil,or_false] at hu
   rcases hu with hu | hu | hu | hu
   ·exact .inr hu
   ·exact .inl hu
   ·exact .inl hu
   ·exact .inl (Fa _ _ _ _ _ _ u hu)
  ·exact .inl (sU 0 _ _ _ u hu)
 unfold wrap
 rw [hnew]
 simp only [hfil]
 rw [if_pos ?_]
 ·simp only [hρ,hτ,hmap,bW,Fb,List.nil_append]
  simp only [ren,bn,g0,g1,g2,g3,g4,g5]
 ·rw [List.all_eq_true]
  intro u hu
  simp only [List.length_nil,List.range_zero,List.map_nil,ay,List.append_nil,List.mem_append,tags,aU,List.not_mem_nil,false_or] at hu
  rcases VD u hu with rfl | rfl <;> rfl
theorem Sv (c c2:Nat) (l:List Int) (b:List UInt8) (a:Int) (hl:l.length≤320) (hf:fine l = true) :
  Ev1 X 88 [.ro c (.pi .i64 l) 1,.ro c2 (.pb b) 2,.int .i64 a] [] (.fn 89 [.ptr 0 0 0 0,.ptr 1 0 0 0,.ptr 2 0 0 0,.ptr 3 0 0 0,.ptr 4 0 0 0,.ptr 5 0 0 0],nH c2 b a (mxL 0 l) (bf l).1 (dW (bf l).1) l 0 0 2 0):=by
 obtain ⟨code,hbody,o,hr,ks,hk,rfl⟩:=ML c c2 l b a hl hf
 have hw:=XV (c:=c2) (b:=b) (a:=a) (m:=mxL 0 l) (n:=(bf l).1) (f:=dW (bf l).1) hf hk
 refine Ev1.of (l:=[.fn 89 [.ptr 5 0 0 0,.ptr 1 0 0 0,.ptr 0 0 0 0,.ptr 3 0 0 0,.ptr 2 0 0 0,.ptr 4 0 0 0]]) (out:=⟨.ret,[(6,.fn 89 [.ptr 5 0 0 0,.ptr 1 0 0 0,.ptr 0 0 0 0,.ptr 3 0 0 0,.ptr 2 0 0 0,.ptr 4 0 0 0])],rdH c2 b a (bf l).1 (dW (bf l).1) ks l (mxL 0 l)⟩) zS Try.func88 hbody (show aG X 88 [] 0 [.ro c (.pi .i64 l) 1,.ro c2 (.pb b) 2,.int .i64 a] = some ([.ro c (.pi .i64 l) 1,.ro c2 (.pb b) 2,.int .i64 a],[⟨[],[1]⟩,⟨[],[2]⟩,⟨[],[]⟩]) from rfl) ?_ ?_ (.inr rfl) ?_ ?_
 ·rw [show aA [.ro c (.pi .i64 l) 1,.ro c2 (.pb b) 2,.int .i64 a] = [] from rfl,dK]
  rfl
 ·rw [show aA [.ro c (.pi .i64 l) 1,.ro c2 (.pb b) 2,.int .i64 a] = [] from rfl,dK]
  exact hr
 ·rfl
 ·rw [show aA [.ro c (.pi .i64 l) 1,.ro c2 (.pb b) 2,.int .i64 a] = [] from rfl,dK]
  exact hw
end Go.Proofs.Ytcllinmgllmpmaa
namespace Go.Proofs.Ytcllinmgllmpmaa
open Go.AM
theorem OY:∀ (zs:List Int),zs.Nodup→zs.map (fun x=>zs.idxOf x) = List.range zs.length:=by
 intro zs h
 refine List.ext_getElem (by simp) fun j h1 h2=>?_
 simp only [List.length_map,List.length_range] at h1 h2
 simp only [List.getElem_map,List.getElem_range]
 exact List.Nodup.idxOf_getElem h j h1
def piL (d r:Nat):List Nat:=[d,d + 1,d + 2,d + 3,d + 4,d + 5] ++ (List.range r).map fun k=>d + 6 + k
theorem VE (d tn:Nat) (l:List Int):aA (jY.map (syV (d + 6) tn (aV l) l false)) = (List.range (aV l).length).map fun k=>d + 6 + k:=by
 rw [JD]
 have e:(jY.filter fun x=>decide (x ∈ aV l)) = aV l:=by
  unfold aV
  refine List.filter_congr fun x hx=>?_
  simp [List.mem_filter,hx]
 rw [e,← OY (aV l) (Dp l),List.map_map]
 rfl
section
variable {c:Nat} {b:List UInt8} {a m:Int} {n f l:List Int} {t tb tn:Nat} {pre:AM.Heap}
theorem yj (k:Nat):(pre ++ nH c b a m n f l pre.length t tb tn)[pre.length + k]? = (nH c b a m n f l pre.length t tb tn)[k]?:=by
 rw [List.getElem?_append_right (by omega)]
 congr 1;omega
theorem Et (d:Nat) {k:Nat} (hk:k < (aV l).length):(nH c b a m n f l d t tb tn)[6 + k]? = some (kN (dJ ((aV l)[k]) l 0) 0 t):=by
 unfold nH
 rw [List.getElem?_append_right (by simp),List.getElem?_map]
 simp only [List.length_cons,List.length_nil]
 rw [show 6 + k - 6 = k by omega,List.getElem?_eq_getElem hk]
 rfl
theorem qO (d:Nat):(nH c b a m n f l d t tb tn).length = 6 + (aV l).length:=by
 unfold nH;simp;omega
theorem UN:reach (pre ++ nH c b a m n f l pre.length t tb tn) aB [pre.length,pre.length + 1,pre.length + 2,pre.length + 3,pre.length + 4,pre.length + 5] [] = piL pre.length (aV l).length:=by
 have h0:(pre ++ nH c b a m n f l pre.length t tb tn)[pre.length]? = some (jZ (.int .i64 m) t):=yj 0
 have h1:(pre ++ nH c b a m n f l pre.length t tb tn)[pre.length + 1]? = some (jZ (.int .i64 a) t):=yj 1
 have h2:(pre ++ nH c b a m n f l pre.length t tb tn)[pre.length + 2]? = some (jZ (.ro c (.pb b) tb) t):=yj 2
 have h3:(pre ++ nH c b a m n f l pre.length t tb tn)[pre.length + 3]? = some (pz 17 f t):=yj 3
 have h4:(pre ++ nH c b a m n f l pre.length t tb tn)[pre.length + 4]? = some (pz 16 n t):=yj 4
 have h5:(pre ++ nH c b a m n f l pre.length t tb tn)[pre.length + 5]? = some (vP (jY.map (syV (pre.length + 6) tn (aV l) l false)) t):=yj 5
 have MN:∀ o ∈ (List.range (aV l).length).map (fun k=>pre.length + 6 + k),∃ ob,(pre ++ nH c b a m n f l pre.length t tb tn)[o]? = some (some ob)∧ob.ids = false:=by
  intro o ho
  obtain ⟨k,hk,rfl⟩:=List.mem_map.1 ho
  rw [show pre.length + 6 + k = pre.length + (6 + k) by omega,yj,Et _ (List.mem_range.1 hk)]
  exact ⟨_,rfl,rfl⟩
 have hnd:((List.range (aV l).length).map fun k=>pre.length + 6 + k).Nodup:=by
  rw [List.nodup_iff_pairwise_ne,List.pairwise_map]
  refine (List.nodup_iff_pairwise_ne.1 List.nodup_range).imp ?_
  intro x y hne e
  exact hne (by omega)
 have hend:=yY (pre ++ nH c b a m n f l pre.length t tb tn) ((List.range (aV l).length).map fun k=>pre.length + 6 + k) [pre.length,pre.length + 1,pre.length + 2,pre.length + 3,pre.length + 4,pre.length + 5] 99994 (by have:=Ce l;simp;omega) MN hnd (by
  intro o ho
  obtain ⟨k,_,rfl⟩:=List.mem_map.1 ho
  simp;omega)
 unfold piL
 show reach _ (99994 + 1 + 1 + 1 + 1 + 1 + 1) _ [] = _
 rw [← VE pre.length tn l] at hend ⊢
 generalize pre ++ nH c b a m n f l pre.length t tb tn = H at *
 generalize pre.length = d at *
 unfold jZ at h0 h1 h2
 unfold pz at h3 h4
 unfold vP at h5
 simp [reach,h0,h1,h2,h3,h4,h5,ids,aA,hend]
theorem yI (d r:Nat):piL d r = (List.range (6 + r)).map fun k=>d + k:=by
 unfold piL
 rw [List.range_add,List.map_append,List.map_map]
 congr 1
 refine List.map_congr_left fun k _=>?_
 simp only [Function.comp_apply];omega
theorem MO (d:Nat):∀ (r k s:Nat),k < r→AM.idxOf ((List.range r).map fun j=>d + j) (d + k) s = some (s + k):=by
 intro r k s hk
 have:∀ (zs:List Nat) (s:Nat),k ∈ zs→AM.idxOf (zs.map fun j=>d + j) (d + k) s = some (s + zs.idxOf k):=by
  intro zs
  induction zs with
  | nil=>intro s h;simp at h
  | cons z r ih =>
   intro s h
   simp only [List.map_cons,AM.idxOf]
   by_cases e:z = k
   ·subst e;simp
   ·rw [if_neg (by omega),ih (s + 1) ((List.mem_cons.1 h).resolve_left fun w=>e w.symm),List.idxOf_cons]
    have e3:(z == k) = false:=by simpa using e
    rw [e3]
    simp
    omega
 rw [this (List.range r) s (List.mem_range.2 hk)]
 congr 2
 have h:=List.Nodup.idxOf_getElem List.nodup_range k (by simpa using hk)
 simpa using h
theorem Qd {k:Nat} (hk:k < 6 + (aV l).length):∃ ob,(pre ++ nH c b a m n f l pre.length t tb tn)[pre.length + k]? = some (some ob)∧ob.g = 0:=by
 rw [yj]
 by_cases h6:k < 6
 ·have:k = 0∨k = 1∨k = 2∨k = 3∨k = 4∨k = 5:=by omega
  rcases this with rfl | rfl | rfl | rfl | rfl | rfl <;> exact ⟨_,rfl,rfl⟩
 ·obtain ⟨j,rfl⟩:∃ j,k = 6 + j:=⟨k - 6,by omega⟩
  rw [Et _ (by omega)]
  exact ⟨_,rfl,rfl⟩
theorem Qe {k:Nat} (hk:k < 6 + (aV l).length):dH (pre ++ nH c b a m n f l pre.length t tb tn) (piL pre.length (aV l).length) (pre.length + k) 0 = some (k,0):=by
 obtain ⟨ob,h,hg⟩:=Qd (c:=c) (b:=b) (a:=a) (m:=m) (n:=n) (f:=f) (t:=t) (tb:=tb) (tn:=tn) (pre:=pre) hk
 unfold dH live
 rw [h]
 simp only [hg,if_true]
 rw [yI,MO _ _ _ _ hk]
 simp
theorem UM (ρ:Nat→Nat→Option (Nat × Nat)) (τ:Nat→Nat) (d d2 t2 tb2 tn2:Nat) (hρ:∀ k,k < (aV l).length→ρ (d + 6 + k) 0 = some (d2 + 6 + k,0)) (ht:τ t = t2) (htb:τ tb = tb2) (htn:τ tn = tn2) :
  (nH c b a m n f l d t tb tn).map (Option.map (aT ρ τ 0)) = nH c b a m n f l d2 t2 tb2 tn2:=by
 have hsy:∀ x ∈ jY,ren ρ τ (syV (d + 6) tn (aV l) l false x) = syV (d2 + 6) tn2 (aV l) l false x:=by
  intro x _
  by_cases hx:x ∈ aV l
  ·have h:=hρ _ (List.idxOf_lt_length_of_mem hx)
   simp [syV,hx,ren,h]
  ·simp [syV,hx,ren,htn]
 unfold nH
 rw [List.map_append]
 congr 1
 ·simp only [List.map_cons,List.map_nil,jZ,pz,vP,Option.map_some,aT,ren,bn,iK,ht,htb]
  rw [List.map_congr_left hsy]
 ·rw [List.map_map]
  refine List.map_congr_left fun x hx=>?_
  simp only [Function.comp_apply,kN,Option.map_some,aT,ren,ht]
theorem Xf (u:Nat):(piL pre.length (aV l).length).map (fun o=>(aX (pre ++ nH c b a m n f l pre.length t tb tn) o).map (aT (dH (pre ++ nH c b a m n f l pre.length t tb tn) (piL pre.length (aV l).length)) (fun _=>u) 0)) = nH c b a m n f l 0 u u u:=by
 have hob:(piL pre.length (aV l).length).map (aX (pre ++ nH c b a m n f l pre.length t tb tn)) = nH c b a m n f l pre.length t tb tn:=by
  rw [yI,List.map_map]
  refine List.ext_getElem? fun j=>?_
  by_cases hj:j < 6 + (aV l).length
  ·rw [List.getElem?_map,List.getElem?_range hj]
   simp only [Option.map_some,Function.comp_apply,aX,yj]
   rw [List.getElem?_eq_getElem (by rw [qO];exact hj)]
   rfl
  ·rw [List.getElem?_eq_none (by simp;omega),List.getElem?_eq_none (by rw [qO];omega)]
 have e:∀ F:AM.Obj→AM.Obj,(piL pre.length (aV l).length).map (fun o=>(aX (pre ++ nH c b a m n f l pre.length t tb tn) o).map F) = ((piL pre.length (aV l).length).map (aX (pre ++ nH c b a m n f l pre.length t tb tn))).map (Option.map F):=by
  intro F;rw [List.map_map];rfl
 rw [e,hob]
 refine UM _ _ pre.length 0 u u u (fun k hk=>?_) rfl rfl rfl
 rw [show pre.length + 6 + k = pre.length + (6 + k) by omega,Qe (by omega)]
end
end Go.Proofs.Ytcllinmgllmpmaa
namespace Go.Proofs.Ytcllinmgllmpmaa
open Go.AM
theorem MP (H:AM.Heap):∀ (L acc:List Nat) (n:Nat),(∀ o ∈ L,o ∈ acc)→reach H n L acc = acc
 | [],acc,n,_=>ug H acc n
 | o :: r,acc,0,_=>rfl
 | o :: r,acc,n + 1,h=>by
  have hc:acc.contains o = true:=List.contains_iff_mem.2 (h o (by simp))
  rw [reach,hc]
  simp only [if_true]
  exact MP H r acc n fun a ha=>h a (List.mem_cons_of_mem _ ha)
theorem Ig (H:AM.Heap):∀ (L M acc:List Nat) (n:Nat),L.length < n→(∀ o ∈ L,∃ ob,H[o]? = some (some ob)∧ob.ids = false)→L.Nodup→(∀ o ∈ L,o ∉ acc)→(∀ o ∈ M,o ∈ acc ++ L)→reach H n (L ++ M) acc = acc ++ L
 | [],M,acc,n,_,_,_,_,h=>by rw [List.nil_append,MP H M acc n (by simpa using h)];simp
 | o :: r,M,acc,0,h,_,_,_,_=>by simp at h
 | o :: r,M,acc,n + 1,h,h1,h2,h3,h4=>by
  obtain ⟨ob,ho,hob⟩:=h1 o (by simp)
  have hc:acc.contains o = false:=by
   rw [Bool.eq_false_iff]
   intro z
   exact h3 o (by simp) (List.contains_iff_mem.1 z)
  rw [List.cons_append,reach,hc]
  simp only [Bool.false_eq_true,if_false,ho,hob,List.nil_append]
  rw [Ig H r M (acc ++ [o]) n (by simpa using h) (fun a ha=>h1 a (List.mem_cons_of_mem _ ha)) (List.nodup_cons.1 h2).2 (fun a ha z=>by
   rcases List.mem_append.1 z with z | z
   ·exact h3 a (List.mem_cons_of_mem _ ha) z
   ·simp only [List.mem_singleton] at z
    subst z
    exact (List.nodup_cons.1 h2).1 ha) (fun a ha=>by simpa using h4 a ha)]
  simp
section
variable {c:Nat} {b:List UInt8} {a m:Int} {n f l:List Int} {t tb tn:Nat} {pre:AM.Heap}
theorem Xd (u:Nat):∀ o ∈ reach (nH c b a m n f l 0 u u u) aB (List.range (6 + (aV l).length)) [],o < 6 + (aV l).length:=by
 have h0:(nH c b a m n f l 0 u u u)[0]? = some (jZ (.int .i64 m) u):=rfl
 have h1:(nH c b a m n f l 0 u u u)[1]? = some (jZ (.int .i64 a) u):=rfl
 have h2:(nH c b a m n f l 0 u u u)[2]? = some (jZ (.ro c (.pb b) u) u):=rfl
 have h3:(nH c b a m n f l 0 u u u)[3]? = some (pz 17 f u):=rfl
 have h4:(nH c b a m n f l 0 u u u)[4]? = some (pz 16 n u):=rfl
 have h5:(nH c b a m n f l 0 u u u)[5]? = some (vP (jY.map (syV (0 + 6) u (aV l) l false)) u):=rfl
 have MN:∀ o ∈ (List.range (aV l).length).map (fun k=>0 + 6 + k),∃ ob,(nH c b a m n f l 0 u u u)[o]? = some (some ob)∧ob.ids = false:=by
  intro o ho
  obtain ⟨k,hk,rfl⟩:=List.mem_map.1 ho
  rw [show 0 + 6 + k = 6 + k by omega,Et _ (List.mem_range.1 hk)]
  exact ⟨_,rfl,rfl⟩
 have hnd:((List.range (aV l).length).map fun k=>0 + 6 + k).Nodup:=by
  rw [List.nodup_iff_pairwise_ne,List.pairwise_map]
  refine (List.nodup_iff_pairwise_ne.1 List.nodup_range).imp ?_
  intro x y hne e
  exact hne (by omega)
 have hr:List.range (6 + (aV l).length) = [0,1,2,3,4,5] ++ (List.range (aV l).length).map fun k=>0 + 6 + k:=by
  have:=yI 0 (aV l).length
  unfold piL at this
  rw [show (List.range (6 + (aV l).length)) = (List.range (6 + (aV l).length)).map fun k=>0 + k by simp]
  exact this.symm
 have hend:=Ig (nH c b a m n f l 0 u u u) ((List.range (aV l).length).map fun k=>0 + 6 + k) ((List.range (aV l).length).map fun k=>0 + 6 + k) [0,1,2,3,4,5] 99994 (by have:=Ce l;simp;omega) MN hnd (by
  intro o ho
  obtain ⟨k,_,rfl⟩:=List.mem_map.1 ho
  simp;omega) (fun o ho=>List.mem_append_right _ ho)
 intro o ho
 have hall:reach (nH c b a m n f l 0 u u u) aB (List.range (6 + (aV l).length)) [] = List.range (6 + (aV l).length):=by
  rw [hr]
  show reach _ (99994 + 1 + 1 + 1 + 1 + 1 + 1) _ [] = _
  rw [← VE 0 u l] at hend ⊢
  generalize nH c b a m n f l 0 u u u = H at *
  unfold jZ at h0 h1 h2
  unfold pz at h3 h4
  unfold vP at h5
  simp [reach,h0,h1,h2,h3,h4,h5,ids,aA]
  simpa using hend
 rw [hall] at ho
 exact List.mem_range.1 ho
end
end Go.Proofs.Ytcllinmgllmpmaa
namespace Go.Proofs.Ytcllinmgllmpmaa
open Go.AM
theorem Di {ρ:Nat→Nat→Option (Nat × Nat)} {τ:Nat→Nat} {H:AM.Heap} {π:List Nat} {H1:AM.Heap} {d:Nat} (F:Nat→Option AM.Obj):∀ (j k:Nat) (B:AM.Heap),
  (∀ i,k≤i→i < k + j→((aX H1 i).map fun ob=>aT ρ τ (fG H π i ob.g) ob) = F i)→∀ x:Nat,(bW ρ τ H π H1 k (List.range' (d + k) j) B)[x]? = if d + k≤x∧x < d + k + j∧x < B.length then some (F (x - d)) else B[x]?
 | 0,k,B,_,x=>by
  simp only [List.range'_zero,bW]
  rw [if_neg (by omega)]
 | j + 1,k,B,h,x=>by
  simp only [List.range'_succ,bW]
  rw [show d + k + 1 = d + (k + 1) by omega,Di F j (k + 1) _ (fun i h1 h2=>h i (by omega) (by omega)) x,h k (Nat.le_refl _) (by omega)]
  simp only [upd,List.length_set,List.getElem?_set]
  by_cases e:x = d + k
  ·subst e
   rw [if_neg (by omega),if_pos rfl]
   by_cases hl:d + k < B.length
   ·rw [if_pos hl,if_pos (by omega),show d + k - d = k by omega]
   ·rw [if_neg hl,if_neg (by omega),List.getElem?_eq_none (by omega)]
  ·have e2:¬ d + k = x:=fun z=>e z.symm
   by_cases hc:d + (k + 1)≤x∧x < d + (k + 1) + j∧x < B.length
   ·rw [if_pos hc,if_pos (by omega)]
   ·rw [if_neg hc,if_neg e2,if_neg (by omega)]
theorem zQ:∀ L:List Nat,(∀ u ∈ L,u = 0∨u = 2)→dO L = some (if 2 ∈ L then 2 else 0)
 | [],_=>rfl
 | u :: r,h=>by
  rw [dO,zQ r fun v hv=>h v (List.mem_cons_of_mem _ hv)]
  rcases h u (by simp) with rfl | rfl
  ·by_cases hr:2 ∈ r <;> simp [hr,eX]
  ·by_cases hr:2 ∈ r <;> simp [hr,eX]
section
variable {c:Nat} {b:List UInt8} {a m:Int} {n f l:List Int} {t tn:Nat} {pre:AM.Heap}
theorem Qc (d tb:Nat):∀ u ∈ ay (nH c b a m n f l d t tb tn),u = t∨u = tb∨u = tn:=by
 intro u hu
 unfold nH at hu
 rw [mW,List.mem_append] at hu
 rcases hu with hu | hu
 ·simp only [jZ,pz,vP,ay,dF,if_true,tags,aU,List.mem_append,List.append_nil,List.nil_append] at hu
  simp only [Bool.false_eq_true,if_false,List.cons_append,List.nil_append,List.mem_cons,List.not_mem_nil,or_false] at hu
  rcases hu with hu | hu | hu | hu
  ·exact .inr (.inl hu)
  ·exact .inl hu
  ·exact .inl hu
  ·exact .inr (.inr (Fa _ _ _ _ _ _ u hu))
 ·exact .inl (sU t _ _ _ u hu)
theorem UL (d tb:Nat):tb ∈ ay (nH c b a m n f l d t tb tn):=by
 unfold nH
 rw [mW,List.mem_append]
 left
 simp [jZ,pz,vP,ay,dF,tags,aU]
theorem aaX (d tb k:Nat):∀ ob,aX (nH c b a m n f l d t tb tn) k = some ob→ob.g = 0:=by
 intro ob h
 by_cases hk:k < 6 + (aV l).length
 ·by_cases h6:k < 6
  ·have:k = 0∨k = 1∨k = 2∨k = 3∨k = 4∨k = 5:=by omega
   rcases this with rfl | rfl | rfl | rfl | rfl | rfl <;> (cases h;rfl)
  ·obtain ⟨j,rfl⟩:∃ j,k = 6 + j:=⟨k - 6,by omega⟩
   unfold aX at h
   rw [Et _ (by omega)] at h
   cases h;rfl
 ·unfold aX at h
  rw [List.getElem?_eq_none (by rw [qO];omega)] at h
  cases h
end
end Go.Proofs.Ytcllinmgllmpmaa
