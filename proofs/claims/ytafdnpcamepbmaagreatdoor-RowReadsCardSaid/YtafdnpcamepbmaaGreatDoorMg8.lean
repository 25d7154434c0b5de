/- D1 to D6b: texts of this claim, one behind the other; what each shows stands at its head. -/
import Derived.Test.YtafdnpcamepbmaaGreatDoorAm3
import Derived.Test.YtafdnpcamepbmaaGreatDoorMg7
set_option linter.unusedSimpArgs false
set_option linter.unusedVariables false
set_option maxRecDepth 100000
set_option maxHeartbeats 8000000
namespace Go.Proofs.YtafdnpcamepbmaaGreatDoor
def dch (d:Nat):UInt8:=UInt8.ofNat (48 + d)
def dgs:Nat→Nat→List UInt8
  | _,0=>[]
  | u,n + 1=>dgs (u / 10) n ++ [dch (u % 10)]
theorem dgs_len:∀ (n u:Nat),(dgs u n).length = n
  | 0,_=>rfl
  | n + 1,u=>by rw [dgs,List.length_append,dgs_len n];rfl
theorem dgs_add:∀ (m n u:Nat),dgs u (n + m) = dgs (u / 10 ^ m) n ++ dgs u m
  | 0,n,u=>by simp [dgs]
  | m + 1,n,u=>by
    rw [show n + (m + 1) = n + m + 1 from rfl,dgs,dgs_add m n (u / 10),dgs,Nat.div_div_eq_div_mul,show 10 * 10 ^ m = 10 ^ (m + 1) by rw [Nat.pow_succ];omega,List.append_assoc]
theorem dgs_zero:∀ n:Nat,dgs 0 n = List.replicate n 48
  | 0=>rfl
  | n + 1=>by
    rw [dgs,Nat.zero_div,dgs_zero n,List.replicate_succ']
    rfl
theorem dgs_one (u:Nat):dgs u 1 = [dch (u % 10)]:=rfl
theorem dgs_two (u:Nat):dgs u 2 = [dch (u / 10 % 10),dch (u % 10)]:=rfl
theorem dgs_mod:∀ (m u:Nat),dgs (u % 10 ^ m) m = dgs u m
  | 0,u=>rfl
  | m + 1,u=>by
    rw [dgs,dgs]
    have h1:u % 10 ^ (m + 1) % 10 = u % 10:=by
      rw [Nat.pow_succ,Nat.mul_comm];exact Nat.mod_mul_right_mod u 10 (10 ^ m)
    have h2:u % 10 ^ (m + 1) / 10 = u / 10 % 10 ^ m:=by
      rw [Nat.pow_succ,Nat.mul_comm,Nat.mod_mul_right_div_self]
    rw [h1,h2,dgs_mod m]
theorem dgs_pad {u n:Nat} (h:u < 10 ^ n) (k:Nat):dgs u (k + n) = List.replicate k 48 ++ dgs u n:=by
  rw [dgs_add n k u,Nat.div_eq_of_lt h,dgs_zero]
def ndN (u:Nat):Nat:=if u < 10 then 1 else ndN (u / 10) + 1
theorem ndN_pos (u:Nat):1≤ndN u:=by unfold ndN;split <;> omega
theorem ndN_lt (u:Nat):u < 10 ^ ndN u:=by
  induction u using Nat.strongRecOn with
  | _ u ih =>
    unfold ndN
    split
    · simpa using ‹u < 10›
    · have:=ih (u / 10) (by omega)
      rw [Nat.pow_succ];omega
theorem ndN_le (u:Nat) (h:0 < u):10 ^ (ndN u - 1)≤u:=by
  induction u using Nat.strongRecOn with
  | _ u ih =>
    unfold ndN
    split
    · simp;omega
    · have:=ih (u / 10) (by omega) (by omega)
      have hp:=ndN_pos (u / 10)
      obtain ⟨k,hk⟩:∃ k,ndN (u / 10) = k + 1:=⟨ndN (u / 10) - 1,by omega⟩
      rw [hk] at this ⊢
      simp only [Nat.add_sub_cancel] at this ⊢
      rw [Nat.pow_succ];omega
theorem ndN_eq {u n:Nat} (hn:1≤n) (h1:u < 10 ^ n) (h2:n = 1∨10 ^ (n - 1)≤u):ndN u = n:=by
  have h3:=ndN_lt u
  have h4:=ndN_pos u
  rcases Nat.lt_trichotomy (ndN u) n with h | h | h
  · rcases h2 with rfl | h2
    · omega
    · have:10 ^ ndN u≤10 ^ (n - 1):=Nat.pow_le_pow_right (by omega) (by omega)
      omega
  · exact h
  · by_cases hu:u = 0
    · subst hu
      have:ndN 0 = 1:=by unfold ndN;rfl
      omega
    · have h5:=ndN_le u (by omega)
      have:10 ^ n≤10 ^ (ndN u - 1):=Nat.pow_le_pow_right (by omega) (by omega)
      omega
def decB (u:Nat):List UInt8:=dgs u (ndN u)
theorem decB_len (u:Nat):(decB u).length = ndN u:=dgs_len _ _
def padB (u n:Nat):List UInt8:=dgs u (max n (ndN u))
theorem padB_eq (u n:Nat):padB u n = List.replicate (n - ndN u) 48 ++ decB u:=by
  unfold padB decB
  rw [show max n (ndN u) = (n - ndN u) + ndN u by omega]
  exact dgs_pad (ndN_lt u) _
theorem padB_of {u n:Nat} (hn:1≤n) (h:u < 10 ^ n):padB u n = dgs u n:=by
  unfold padB
  congr 1
  by_cases hu:u = 0
  · subst hu
    have:ndN 0 = 1:=by unfold ndN;rfl
    omega
  · have h1:=ndN_le u (by omega)
    have h2:=ndN_pos u
    have:¬ n < ndN u:=by
      intro hlt
      have:10 ^ n≤10 ^ (ndN u - 1):=Nat.pow_le_pow_right (by omega) (by omega)
      omega
    omega
def intB (x:Int):List UInt8:=if x < 0 then 45 :: decB (-x).toNat else decB x.toNat
def rdg (n:Nat):Nat→Nat→List UInt8→List UInt8
  | 0,_,s=>s
  | f + 1,x,s=>if 0 < x∨s.length < n then rdg n f (x / 10) (dch (x % 10) :: s) else s
theorem rdg_eq {n:Nat}:∀ (f x:Nat) (s:List UInt8),ndN x + n < f→rdg n f x s = (if x = 0 then List.replicate (n - s.length) 48 else dgs x (max (n - s.length) (ndN x))) ++ s
  | 0,x,s,h=>by omega
  | f + 1,x,s,h=>by
    unfold rdg
    by_cases hx:0 < x∨s.length < n
    · rw [if_pos hx]
      have hnd:ndN (x / 10)≤ndN x:=by
        conv=>rhs;unfold ndN
        split
        · have:x / 10 = 0:=by omega
          rw [this]
          have:ndN 0 = 1:=by unfold ndN;rfl
          omega
        · omega
      by_cases hlt:x < 10
      · -- one digit,then zeros
        have hd:x / 10 = 0:=by omega
        have hm:x % 10 = x:=by omega
        have h0:∀ (f:Nat) (s:List UInt8),n - s.length < f→rdg n f 0 s = List.replicate (n - s.length) 48 ++ s:=by
          intro f
          induction f with
          | zero=>intro s h;omega
          | succ f ih =>
            intro s h
            unfold rdg
            by_cases hs:s.length < n
            · rw [if_pos (.inr hs),Nat.zero_div,ih _ (by simp only [List.length_cons];omega)]
              simp only [List.length_cons]
              obtain ⟨k,hk⟩:∃ k,n - s.length = k + 1:=⟨n - s.length - 1,by omega⟩
              rw [hk,show n - (s.length + 1) = k by omega,List.replicate_succ']
              simp [dch]
            · rw [if_neg (by omega),show n - s.length = 0 by omega];rfl
        rw [hd,h0 f _ (by simp only [List.length_cons];have:=ndN_pos x;omega),hm]
        simp only [List.length_cons]
        have hn1:ndN x = 1:=by unfold ndN;rw [if_pos hlt]
        by_cases hx0:x = 0
        · rw [if_pos hx0]
          subst hx0
          obtain ⟨k,hk⟩:∃ k,n - s.length = k + 1:=⟨n - s.length - 1,by omega⟩
          rw [hk,show n - (s.length + 1) = k by omega,List.replicate_succ']
          simp [dch]
        · rw [if_neg hx0,hn1,show max (n - s.length) 1 = (n - (s.length + 1)) + 1 by omega,dgs_pad (by omega),dgs_one,hm]
          simp
      · have hn1:ndN x = ndN (x / 10) + 1:=by
          conv=>lhs;unfold ndN
          rw [if_neg hlt]
        rw [rdg_eq f (x / 10) _ (by omega),if_neg (by omega),if_neg (by omega)]
        simp only [List.length_cons]
        rw [hn1,show max (n - s.length) (ndN (x / 10) + 1) = max (n - (s.length + 1)) (ndN (x / 10)) + 1 by omega,dgs]
        simp
    · rw [if_neg hx,if_pos (by omega),show n - s.length = 0 by omega];rfl
theorem rdg_pad {n x f:Nat} (hn:1≤n) (hf:ndN x + n < f):rdg n f x [] = padB x n:=by
  rw [rdg_eq f x [] hf]
  simp only [List.length_nil,Nat.sub_zero,List.append_nil]
  unfold padB
  by_cases hx:x = 0
  · rw [if_pos hx,hx,← dgs_zero]
    have:ndN 0 = 1:=by unfold ndN;rfl
    rw [this,Nat.max_eq_left hn]
  · rw [if_neg hx]
end Go.Proofs.YtafdnpcamepbmaaGreatDoor
namespace Go.Proofs.YtafdnpcamepbmaaGreatDoor
open Go.AM
theorem l8_at:∀ k:Fin 256,∃ v:Fin 9,([0,1,2,2,3,3,3,3,4,4,4,4,4,4,4,4,5,5,5,5,5,5,5,5,5,5,5,5,5,5,5,5,6,6,6,6,6,6,6,6,6,6,6,6,6,6,6,6,6,6,6,6,6,6,6,6,6,6,6,6,6,6,6,6,7,7,7,7,7,7,7,7,7,7,7,7,7,7,7,7,7,7,7,7,7,7,7,7,7,7,7,7,7,7,7,7,7,7,7,7,7,7,7,7,7,7,7,7,7,7,7,7,7,7,7,7,7,7,7,7,7,7,7,7,7,7,7,7,8,8,8,8,8,8,8,8,8,8,8,8,8,8,8,8,8,8,8,8,8,8,8,8,8,8,8,8,8,8,8,8,8,8,8,8,8,8,8,8,8,8,8,8,8,8,8,8,8,8,8,8,8,8,8,8,8,8,8,8,8,8,8,8,8,8,8,8,8,8,8,8,8,8,8,8,8,8,8,8,8,8,8,8,8,8,8,8,8,8,8,8,8,8,8,8,8,8,8,8,8,8,8,8,8,8,8,8,8,8,8,8,8,8,8,8,8,8,8,8,8,8,8,8,8,8,8,8]:List UInt8)[k.val]? = some (UInt8.ofNat v.val)∧(k.val = 0→v.val = 0)∧(0 < k.val→2 ^ (v.val - 1)≤k.val∧k.val < 2 ^ v.val∧0 < v.val):=by decide +kernel
def Bits (x n:Nat):Prop:=n≤64∧(x = 0→n = 0)∧(0 < x→0 < n∧2 ^ (n - 1)≤x∧x < 2 ^ n)
theorem bits_up {x b n:Nat} (hb:b + n≤64) (h:Bits (x / 2 ^ b) n) (hx:0 < x / 2 ^ b):Bits x (b + n):=by
  obtain ⟨_,_,h3⟩:=h
  obtain ⟨h4,h5,h6⟩:=h3 hx
  have hp:0 < 2 ^ b:=Nat.two_pow_pos b
  have hd:=Nat.div_add_mod x (2 ^ b)
  have hm:=Nat.mod_lt x hp
  refine ⟨hb,fun h=>?_,fun _=>⟨by omega,?_,?_⟩⟩
  · subst h;simp at hx
  · rw [show b + n - 1 = b + (n - 1) by omega,Nat.pow_add]
    have:=Nat.mul_le_mul_left (2 ^ b) h5
    omega
  · rw [Nat.pow_add]
    have:=Nat.mul_le_mul_left (2 ^ b) (Nat.succ_le_of_lt h6)
    rw [Nat.succ_eq_add_one,Nat.mul_add,Nat.mul_one] at this
    omega
theorem pow_each:∀ n:Fin 65,0 < n.val→(n.val * 78913 / 2 ^ 18≤19)∧2 ^ n.val≤10 ^ (n.val * 78913 / 2 ^ 18 + 1)∧(n.val * 78913 / 2 ^ 18 = 0∨10 ^ (n.val * 78913 / 2 ^ 18 - 1)≤2 ^ (n.val - 1)):=by decide +kernel
theorem nd_of {x n:Nat} (hx:0 < x) (h:Bits x n):n * 78913 / 2 ^ 18≤19∧ndN x = n * 78913 / 2 ^ 18 + (if 10 ^ (n * 78913 / 2 ^ 18)≤x then 1 else 0):=by
  obtain ⟨h1,_,h3⟩:=h
  obtain ⟨h4,h5,h6⟩:=h3 hx
  obtain ⟨p1,p2,p3⟩:=pow_each ⟨n,by omega⟩ h4
  simp only at p1 p2 p3
  generalize n * 78913 / 2 ^ 18 = t at *
  refine ⟨p1,?_⟩
  by_cases ht:10 ^ t≤x
  · rw [if_pos ht]
    exact ndN_eq (by omega) (by omega) (.inr (by simpa using ht))
  · rw [if_neg ht]
    show ndN x = t
    have ht0:t ≠ 0:=by
      rintro rfl
      simp at ht
      omega
    refine ndN_eq (by omega) (by omega) (.inr ?_)
    rcases p3 with h | h
    · exact absurd h ht0
    · omega
theorem len_s32 (H:AM.Heap) (y b:Nat) (tl:AM.Frame) (hb:b≤0) (hy:y < 18446744073709551616) (hb0:b = 0):∃ y2 b2 tl2,y2 < 4294967296∧b2≤32∧((y2 = y∧b2 = b)∨(y2 = y / 2 ^ 32∧b2 = b + 32∧2 ^ 32≤y))∧∃ code,((Tryz.f89.body).bind (codeAt [1,0])) = some code∧Run X (evT X) 89 0 code ([(0,.int .u64 (y:Nat)),(2,.int .i64 (b:Nat))] ++ tl) H ⟨.normal,[(0,.int .u64 (y2:Nat)),(2,.int .i64 (b2:Nat))] ++ tl2,H⟩:=by
  by_cases h:4294967296≤y
  · have hI:(4294967296:Int)≤(y:Int):=by omega
    refine ⟨y / 2 ^ 32,b + 32,[],by omega,by omega,.inr ⟨rfl,rfl,by omega⟩,_,rfl,0,?_⟩
    have w1:Int.fdiv (y:Int) 4294967296 = ((y / 2 ^ 32:Nat):Int):=by
      have:=Int.fdiv_eq_ediv_of_nonneg (y:Int) (b:=4294967296) (by omega)
      omega
    have w1':(y:Int) / 4294967296 = ((y / 2 ^ 32:Nat):Int):=by omega
    have w2:IntKind.i64.wrap ((b:Int) + 32) = ((b + 32:Nat):Int):=by rw [wrap_i64 (by omega) (by omega)];omega
    generalize y / 2 ^ 32 = q at *
    simp (maxSteps:=2000000) -implicitDefEqProofs [-getElem?_pos,go_sem,eqV,plen,h,hI,w1,w1',w2,hb0,show IntKind.u64.bits = 64 from rfl]
  · have hI:¬ ((4294967296:Int)≤(y:Int)):=by omega
    refine ⟨y,b,[(4,.bool false)],by omega,by omega,.inl ⟨rfl,rfl⟩,_,rfl,0,?_⟩
    simp (maxSteps:=2000000) -implicitDefEqProofs [-getElem?_pos,go_sem,eqV,plen,h,hI]
theorem len_s16 (H:AM.Heap) (y b:Nat) (tl:AM.Frame) (hb:b≤32) (hy:y < 4294967296):∃ y2 b2 tl2,y2 < 65536∧b2≤48∧((y2 = y∧b2 = b)∨(y2 = y / 2 ^ 16∧b2 = b + 16∧2 ^ 16≤y))∧∃ code,((Tryz.f89.body).bind (codeAt [1,1,0])) = some code∧Run X (evT X) 89 0 code ([(0,.int .u64 (y:Nat)),(2,.int .i64 (b:Nat))] ++ tl) H ⟨.normal,[(0,.int .u64 (y2:Nat)),(2,.int .i64 (b2:Nat))] ++ tl2,H⟩:=by
  by_cases h:65536≤y
  · have hI:(65536:Int)≤(y:Int):=by omega
    refine ⟨y / 2 ^ 16,b + 16,[],by omega,by omega,.inr ⟨rfl,rfl,by omega⟩,_,rfl,0,?_⟩
    have w1:Int.fdiv (y:Int) 65536 = ((y / 2 ^ 16:Nat):Int):=by
      have:=Int.fdiv_eq_ediv_of_nonneg (y:Int) (b:=65536) (by omega)
      omega
    have w1':(y:Int) / 65536 = ((y / 2 ^ 16:Nat):Int):=by omega
    have w2:IntKind.i64.wrap ((b:Int) + 16) = ((b + 16:Nat):Int):=by rw [wrap_i64 (by omega) (by omega)];omega
    generalize y / 2 ^ 16 = q at *
    simp (maxSteps:=2000000) -implicitDefEqProofs [-getElem?_pos,go_sem,eqV,plen,h,hI,w1,w1',w2,show IntKind.u64.bits = 64 from rfl]
  · have hI:¬ ((65536:Int)≤(y:Int)):=by omega
    refine ⟨y,b,[(8,.bool false)],by omega,by omega,.inl ⟨rfl,rfl⟩,_,rfl,0,?_⟩
    simp (maxSteps:=2000000) -implicitDefEqProofs [-getElem?_pos,go_sem,eqV,plen,h,hI]
theorem len_s8 (H:AM.Heap) (y b:Nat) (tl:AM.Frame) (hb:b≤48) (hy:y < 65536):∃ y2 b2 tl2,y2 < 256∧b2≤56∧((y2 = y∧b2 = b)∨(y2 = y / 2 ^ 8∧b2 = b + 8∧2 ^ 8≤y))∧∃ code,((Tryz.f89.body).bind (codeAt [1,1,1,0])) = some code∧Run X (evT X) 89 0 code ([(0,.int .u64 (y:Nat)),(2,.int .i64 (b:Nat))] ++ tl) H ⟨.normal,[(0,.int .u64 (y2:Nat)),(2,.int .i64 (b2:Nat))] ++ tl2,H⟩:=by
  by_cases h:256≤y
  · have hI:(256:Int)≤(y:Int):=by omega
    refine ⟨y / 2 ^ 8,b + 8,[],by omega,by omega,.inr ⟨rfl,rfl,by omega⟩,_,rfl,0,?_⟩
    have w1:Int.fdiv (y:Int) 256 = ((y / 2 ^ 8:Nat):Int):=by
      have:=Int.fdiv_eq_ediv_of_nonneg (y:Int) (b:=256) (by omega)
      omega
    have w1':(y:Int) / 256 = ((y / 2 ^ 8:Nat):Int):=by omega
    have w2:IntKind.i64.wrap ((b:Int) + 8) = ((b + 8:Nat):Int):=by rw [wrap_i64 (by omega) (by omega)];omega
    generalize y / 2 ^ 8 = q at *
    simp (maxSteps:=2000000) -implicitDefEqProofs [-getElem?_pos,go_sem,eqV,plen,h,hI,w1,w1',w2,show IntKind.u64.bits = 64 from rfl]
  · have hI:¬ ((256:Int)≤(y:Int)):=by omega
    refine ⟨y,b,[(14,.bool false)],by omega,by omega,.inl ⟨rfl,rfl⟩,_,rfl,0,?_⟩
    simp (maxSteps:=2000000) -implicitDefEqProofs [-getElem?_pos,go_sem,eqV,plen,h,hI]
section
variable (x:Nat)
theorem len64_code (hx:x < 18446744073709551616):∃ code,Tryz.f89.body = some code ∧
    Tells (Rets fun fr H=>∃ n,getF fr 2 = .int .i64 (n:Nat)∧Bits x n) X (evT X) 89 0 code [(0,.int .u64 (x:Nat))] []:=by
  refine ⟨_,rfl,?_⟩
  have last:∀ (H:AM.Heap) (y b:Nat) (tl:AM.Frame),y < 256→b≤56→∃ n,(y = 0→n = 0)∧(0 < y→0 < n∧2 ^ (n - 1)≤y∧y < 2 ^ n)∧n≤8∧∃ code,((Tryz.f89.body).bind (codeAt [1,1,1,1,0])) = some code∧Run X (evT X) 89 0 code ([(0,.int .u64 (y:Nat)),(2,.int .i64 (b:Nat))] ++ tl) H ⟨.normal,[(2,.int .i64 ((b + n:Nat):Int))],H⟩:=by
    intro H y b tl hy hb
    obtain ⟨v,h1,h2,h3⟩:=l8_at ⟨y,hy⟩
    simp only at h1 h2 h3
    refine ⟨v.val,h2,fun h=>⟨(h3 h).2.2,(h3 h).1,(h3 h).2.1⟩,by omega,_,rfl,?_⟩
    have w1:IntKind.u8.wrap (y:Int) = (y:Int):=by
      unfold IntKind.wrap;simp [IntKind.signed,IntKind.bits];omega
    have hv:=v.isLt
    have t1:(UInt8.ofNat v.val).toNat = v.val:=by simp;omega
    have w2:IntKind.i64.wrap (v.val:Int) = (v.val:Int):=wrap_i64 (by omega) (by omega)
    have w3:IntKind.i64.wrap ((b:Int) + (v.val:Int)) = ((b + v.val:Nat):Int):=by rw [wrap_i64 (by omega) (by omega)];omega
    generalize v.val = n at *
    (refine ⟨0,?_⟩;simp (maxSteps:=2000000) -implicitDefEqProofs [-getElem?_pos,go_sem,eqV,plen,w1,h1,t1,w2,w3,isStrT,indexV])
  apply Tells.seq (fr':=[(0,.int .u64 (x:Nat)),(2,.int .i64 ((0:Nat):Int))]) (H':=[])
  · (refine ⟨0,?_⟩;simp (maxSteps:=2000000) -implicitDefEqProofs [-getElem?_pos,go_sem,eqV,plen])
  obtain ⟨y1,b1,tl1,k1,k2,k3,r1⟩:=len_s32 [] x 0 [] (by omega) (by omega) rfl
  apply Tells.seq (piece r1 _ rfl)
  obtain ⟨y2,b2,tl2,k4,k5,k6,r2⟩:=len_s16 [] y1 b1 tl1 (by omega) (by omega)
  apply Tells.seq (piece r2 _ rfl)
  obtain ⟨y3,b3,tl3,k7,k8,k9,r3⟩:=len_s8 [] y2 b2 tl2 (by omega) (by omega)
  apply Tells.seq (piece r3 _ rfl)
  obtain ⟨n,l1,l2,l3,r4⟩:=last [] y3 b3 tl3 (by omega) (by omega)
  apply Tells.seq (piece r4 _ rfl)
  refine Tells.of (o:=⟨.ret,[(2,.int .i64 ((b3 + n:Nat):Int))],[]⟩) ⟨0,rfl⟩ ⟨rfl,b3 + n,rfl,?_⟩
  have hy:y3 = x / 2 ^ b3∧(0 < x→0 < y3)∧(x = 0→b3 = 0):=by
    have p1:y1 = x / 2 ^ b1:=by
      rcases k3 with ⟨h1,h2⟩ | ⟨h1,h2,_⟩
      · rw [h1,h2];simp
      · rw [h1,h2]
    have p2:y2 = x / 2 ^ b2:=by
      rcases k6 with ⟨h1,h2⟩ | ⟨h1,h2,_⟩
      · rw [h1,h2];exact p1
      · rw [h1,h2,p1,Nat.div_div_eq_div_mul,← Nat.pow_add]
    have p3:y3 = x / 2 ^ b3:=by
      rcases k9 with ⟨h1,h2⟩ | ⟨h1,h2,_⟩
      · rw [h1,h2];exact p2
      · rw [h1,h2,p2,Nat.div_div_eq_div_mul,← Nat.pow_add]
    refine ⟨p3,?_,?_⟩
    · intro hx
      have q1:0 < y1:=by rcases k3 with ⟨h1,_⟩ | ⟨h1,_,h2⟩ <;> omega
      have q2:0 < y2:=by rcases k6 with ⟨h1,_⟩ | ⟨h1,_,h2⟩ <;> omega
      rcases k9 with ⟨h1,_⟩ | ⟨h1,_,h2⟩ <;> omega
    · intro hx
      rcases k3 with ⟨h1,h2⟩ | ⟨h1,h2,h3⟩
      · rcases k6 with ⟨h4,h5⟩ | ⟨h4,h5,h6⟩
        · rcases k9 with ⟨h7,h8⟩ | ⟨h7,h8,h9⟩ <;> omega
        · omega
      · omega
  obtain ⟨e1,e2,e3⟩:=hy
  by_cases hx0:x = 0
  · have:=e3 hx0
    subst this
    rw [Nat.pow_zero,Nat.div_one] at e1
    rw [e1] at l1 l2
    exact ⟨by omega,fun h=>by rw [Nat.zero_add];exact l1 h,fun h=>by omega⟩
  · have hx1:=e2 (by omega)
    rw [e1] at l1 l2 hx1
    exact bits_up (by omega) ⟨by omega,l1,l2⟩ hx1
end
theorem len64_ev {H:AM.Heap} {x:Nat} (hx:x < 18446744073709551616):∃ n,Bits x n∧evT X 89 [.int .u64 (x:Nat)] H = some (.int .i64 (n:Nat),H):=by
  obtain ⟨code,hcode,o,⟨he,n,h4,hb⟩,hr⟩:=len64_code x hx
  exact ⟨n,hb,evT_eq (Ev1.toldP (l:=[.int .i64 (n:Nat)]) (evT_below X) Tryz.func89 hcode (args_flat (i:=0) rfl rfl (args_nil 1)) rfl (by simp [gtag]) rfl rfl rfl ⟨o,⟨he,by show some [getF o.fr 2] = _;rw [h4]⟩,hr⟩)⟩
end Go.Proofs.YtafdnpcamepbmaaGreatDoor
namespace Go.Proofs.YtafdnpcamepbmaaGreatDoor
open Go.AM
theorem sm_at:∀ k:Fin 100,([48,48,48,49,48,50,48,51,48,52,48,53,48,54,48,55,48,56,48,57,49,48,49,49,49,50,49,51,49,52,49,53,49,54,49,55,49,56,49,57,50,48,50,49,50,50,50,51,50,52,50,53,50,54,50,55,50,56,50,57,51,48,51,49,51,50,51,51,51,52,51,53,51,54,51,55,51,56,51,57,52,48,52,49,52,50,52,51,52,52,52,53,52,54,52,55,52,56,52,57,53,48,53,49,53,50,53,51,53,52,53,53,53,54,53,55,53,56,53,57,54,48,54,49,54,50,54,51,54,52,54,53,54,54,54,55,54,56,54,57,55,48,55,49,55,50,55,51,55,52,55,53,55,54,55,55,55,56,55,57,56,48,56,49,56,50,56,51,56,52,56,53,56,54,56,55,56,56,56,57,57,48,57,49,57,50,57,51,57,52,57,53,57,54,57,55,57,56,57,57]:List UInt8)[2 * k.val]? = some (dch (k.val / 10))∧([48,48,48,49,48,50,48,51,48,52,48,53,48,54,48,55,48,56,48,57,49,48,49,49,49,50,49,51,49,52,49,53,49,54,49,55,49,56,49,57,50,48,50,49,50,50,50,51,50,52,50,53,50,54,50,55,50,56,50,57,51,48,51,49,51,50,51,51,51,52,51,53,51,54,51,55,51,56,51,57,52,48,52,49,52,50,52,51,52,52,52,53,52,54,52,55,52,56,52,57,53,48,53,49,53,50,53,51,53,52,53,53,53,54,53,55,53,56,53,57,54,48,54,49,54,50,54,51,54,52,54,53,54,54,54,55,54,56,54,57,55,48,55,49,55,50,55,51,55,52,55,53,55,54,55,55,55,56,55,57,56,48,56,49,56,50,56,51,56,52,56,53,56,54,56,55,56,56,56,57,57,48,57,49,57,50,57,51,57,52,57,53,57,54,57,55,57,56,57,57]:List UInt8)[2 * k.val + 1]? = some (dch (k.val % 10)):=by decide +kernel
theorem dch_lt (k:Nat):((dch k).toNat:Int) < 256:=by have:=(dch k).toNat_lt;omega
def fbO (B:List UInt8):AM.Obj:=⟨.pb B,0,some 24,1,false,false,3⟩
def fbFr (off nd N:Nat) (tl:AM.Frame):AM.Frame:=[(0,.sl 0 off nd 0),(4,.int .i64 (N:Nat))] ++ tl
def fbFu (off nd N u:Nat) (tl:AM.Frame):AM.Frame:=[(0,.sl 0 off nd 0),(1,.int .u64 (u:Nat)),(4,.int .i64 (N:Nat))] ++ tl
section
variable (B:List UInt8) (off nd N:Nat)
theorem fb_r7 (u:Nat) (k e M1 M2:Nat) (v8 v10 v11:AV) (hk:k < 100) (he:e = 2 * k) (hN:2≤N) (hnd:N≤nd) (hB:off + nd≤B.length) (hl:B.length≤1000) (hM1:M1 = N - 1) (hM2:M2 = N - 2) :
    ∃ code,((Tryz.f80.body).bind (codeAt [1,0,0,0,1,0,1,1,1,1,1,0])) = some code∧Run X (evT X) 80 1 code (fbFu off nd N u [(8,v8),(9,.int .u32 (e:Nat)),(10,v10),(11,v11)]) [some (fbO B)] ⟨.normal,fbFu off nd N u [(8,v8),(10,v10),(11,v11)],[some (fbO ((B.set (off + M1) (dch (k % 10))).set (off + M2) (dch (k / 10))))]⟩:=by
  refine ⟨_,rfl,?_⟩
  obtain ⟨s0,s1⟩:=sm_at ⟨k,hk⟩
  simp only at s0 s1
  rw [← he] at s0 s1
  have w1:IntKind.u32.wrap ((e:Int) + 1) = ((e + 1:Nat):Int):=by
    unfold IntKind.wrap;simp [IntKind.signed,IntKind.bits];omega
  have n1:IntKind.i64.wrap ((N:Int) - 1) = ((N - 1:Nat):Int):=by rw [wrap_i64 (by omega) (by omega)];omega
  have n2:IntKind.i64.wrap ((N:Int) - 2) = ((N - 2:Nat):Int):=by rw [wrap_i64 (by omega) (by omega)];omega
  rw [← hM1] at n1
  rw [← hM2] at n2
  have p1:(0:Int)≤(e:Int) + 1:=by omega
  have c1:(M1:Int) < (nd:Int):=by omega
  have c2:(M2:Int) < (nd:Int):=by omega
  have b1:off + M1 < B.length:=by omega
  have b2:off + M2 < B.length:=by omega
  have d1:=dch_lt (k % 10)
  have d2:=dch_lt (k / 10)
  generalize dch (k % 10) = y1 at *
  generalize dch (k / 10) = y0 at *
  unfold fbFu fbO
  (refine ⟨0,?_⟩;simp (maxSteps:=2000000) -implicitDefEqProofs [-getElem?_pos,go_sem,eqV,plen,s0,s1,p1,w1,n1,n2,c1,c2,b1,b2,d1,d2,isStrT,indexV,pset,joinTag])
theorem fb_r8 (u:Nat) (k e M1 M2:Nat) (v10 v11:AV) (hk:k < 100) (he:e = 2 * k) (hN:4≤N) (hnd:N≤nd) (hB:off + nd≤B.length) (hl:B.length≤1000) (hM1:M1 = N - 3) (hM2:M2 = N - 4) :
    ∃ code,((Tryz.f80.body).bind (codeAt [1,0,0,0,1,0,1,1,1,1,1,1,0])) = some code∧Run X (evT X) 80 1 code (fbFu off nd N u [(8,.int .u32 (e:Nat)),(10,v10),(11,v11)]) [some (fbO B)] ⟨.normal,fbFu off nd N u [(10,v10),(11,v11)],[some (fbO ((B.set (off + M1) (dch (k % 10))).set (off + M2) (dch (k / 10))))]⟩:=by
  refine ⟨_,rfl,?_⟩
  obtain ⟨s0,s1⟩:=sm_at ⟨k,hk⟩
  simp only at s0 s1
  rw [← he] at s0 s1
  have w1:IntKind.u32.wrap ((e:Int) + 1) = ((e + 1:Nat):Int):=by
    unfold IntKind.wrap;simp [IntKind.signed,IntKind.bits];omega
  have n1:IntKind.i64.wrap ((N:Int) - 3) = ((N - 3:Nat):Int):=by rw [wrap_i64 (by omega) (by omega)];omega
  have n2:IntKind.i64.wrap ((N:Int) - 4) = ((N - 4:Nat):Int):=by rw [wrap_i64 (by omega) (by omega)];omega
  rw [← hM1] at n1
  rw [← hM2] at n2
  have p1:(0:Int)≤(e:Int) + 1:=by omega
  have c1:(M1:Int) < (nd:Int):=by omega
  have c2:(M2:Int) < (nd:Int):=by omega
  have b1:off + M1 < B.length:=by omega
  have b2:off + M2 < B.length:=by omega
  have d1:=dch_lt (k % 10)
  have d2:=dch_lt (k / 10)
  generalize dch (k % 10) = y1 at *
  generalize dch (k / 10) = y0 at *
  unfold fbFu fbO
  (refine ⟨0,?_⟩;simp (maxSteps:=2000000) -implicitDefEqProofs [-getElem?_pos,go_sem,eqV,plen,s0,s1,p1,w1,n1,n2,c1,c2,b1,b2,d1,d2,isStrT,indexV,pset,joinTag])
theorem fb_r9 (u:Nat) (k e M1 M2:Nat) (v10:AV) (hk:k < 100) (he:e = 2 * k) (hN:6≤N) (hnd:N≤nd) (hB:off + nd≤B.length) (hl:B.length≤1000) (hM1:M1 = N - 5) (hM2:M2 = N - 6) :
    ∃ code,((Tryz.f80.body).bind (codeAt [1,0,0,0,1,0,1,1,1,1,1,1,1,0])) = some code∧Run X (evT X) 80 1 code (fbFu off nd N u [(10,v10),(11,.int .u32 (e:Nat))]) [some (fbO B)] ⟨.normal,fbFu off nd N u [(10,v10)],[some (fbO ((B.set (off + M1) (dch (k % 10))).set (off + M2) (dch (k / 10))))]⟩:=by
  refine ⟨_,rfl,?_⟩
  obtain ⟨s0,s1⟩:=sm_at ⟨k,hk⟩
  simp only at s0 s1
  rw [← he] at s0 s1
  have w1:IntKind.u32.wrap ((e:Int) + 1) = ((e + 1:Nat):Int):=by
    unfold IntKind.wrap;simp [IntKind.signed,IntKind.bits];omega
  have n1:IntKind.i64.wrap ((N:Int) - 5) = ((N - 5:Nat):Int):=by rw [wrap_i64 (by omega) (by omega)];omega
  have n2:IntKind.i64.wrap ((N:Int) - 6) = ((N - 6:Nat):Int):=by rw [wrap_i64 (by omega) (by omega)];omega
  rw [← hM1] at n1
  rw [← hM2] at n2
  have p1:(0:Int)≤(e:Int) + 1:=by omega
  have c1:(M1:Int) < (nd:Int):=by omega
  have c2:(M2:Int) < (nd:Int):=by omega
  have b1:off + M1 < B.length:=by omega
  have b2:off + M2 < B.length:=by omega
  have d1:=dch_lt (k % 10)
  have d2:=dch_lt (k / 10)
  generalize dch (k % 10) = y1 at *
  generalize dch (k / 10) = y0 at *
  unfold fbFu fbO
  (refine ⟨0,?_⟩;simp (maxSteps:=2000000) -implicitDefEqProofs [-getElem?_pos,go_sem,eqV,plen,s0,s1,p1,w1,n1,n2,c1,c2,b1,b2,d1,d2,isStrT,indexV,pset,joinTag])
theorem fb_r10 (u:Nat) (k e M1 M2:Nat) (hk:k < 100) (he:e = 2 * k) (hN:8≤N) (hnd:N≤nd) (hB:off + nd≤B.length) (hl:B.length≤1000) (hM1:M1 = N - 7) (hM2:M2 = N - 8) :
    ∃ code,((Tryz.f80.body).bind (codeAt [1,0,0,0,1,0,1,1,1,1,1,1,1,1,0])) = some code∧Run X (evT X) 80 1 code (fbFu off nd N u [(10,.int .u32 (e:Nat))]) [some (fbO B)] ⟨.normal,fbFu off nd N u [],[some (fbO ((B.set (off + M1) (dch (k % 10))).set (off + M2) (dch (k / 10))))]⟩:=by
  refine ⟨_,rfl,?_⟩
  obtain ⟨s0,s1⟩:=sm_at ⟨k,hk⟩
  simp only at s0 s1
  rw [← he] at s0 s1
  have w1:IntKind.u32.wrap ((e:Int) + 1) = ((e + 1:Nat):Int):=by
    unfold IntKind.wrap;simp [IntKind.signed,IntKind.bits];omega
  have n1:IntKind.i64.wrap ((N:Int) - 7) = ((N - 7:Nat):Int):=by rw [wrap_i64 (by omega) (by omega)];omega
  have n2:IntKind.i64.wrap ((N:Int) - 8) = ((N - 8:Nat):Int):=by rw [wrap_i64 (by omega) (by omega)];omega
  rw [← hM1] at n1
  rw [← hM2] at n2
  have p1:(0:Int)≤(e:Int) + 1:=by omega
  have c1:(M1:Int) < (nd:Int):=by omega
  have c2:(M2:Int) < (nd:Int):=by omega
  have b1:off + M1 < B.length:=by omega
  have b2:off + M2 < B.length:=by omega
  have d1:=dch_lt (k % 10)
  have d2:=dch_lt (k / 10)
  generalize dch (k % 10) = y1 at *
  generalize dch (k / 10) = y0 at *
  unfold fbFu fbO
  (refine ⟨0,?_⟩;simp (maxSteps:=2000000) -implicitDefEqProofs [-getElem?_pos,go_sem,eqV,plen,s0,s1,p1,w1,n1,n2,c1,c2,b1,b2,d1,d2,isStrT,indexV,pset,joinTag])
theorem fb_r17 (k e M1 M2:Nat) (v12 v14:AV) (hk:k < 100) (he:e = 2 * k) (hN:2≤N) (hnd:N≤nd) (hB:off + nd≤B.length) (hl:B.length≤1000) (hM1:M1 = N - 1) (hM2:M2 = N - 2) :
    ∃ code,((Tryz.f80.body).bind (codeAt [1,1,1,0,1,0,1,1,1,0])) = some code∧Run X (evT X) 80 1 code (fbFr off nd N [(12,v12),(14,v14),(15,.int .u32 (e:Nat))]) [some (fbO B)] ⟨.normal,fbFr off nd N [(12,v12),(14,v14)],[some (fbO ((B.set (off + M1) (dch (k % 10))).set (off + M2) (dch (k / 10))))]⟩:=by
  refine ⟨_,rfl,?_⟩
  obtain ⟨s0,s1⟩:=sm_at ⟨k,hk⟩
  simp only at s0 s1
  rw [← he] at s0 s1
  have w1:IntKind.u32.wrap ((e:Int) + 1) = ((e + 1:Nat):Int):=by
    unfold IntKind.wrap;simp [IntKind.signed,IntKind.bits];omega
  have n1:IntKind.i64.wrap ((N:Int) - 1) = ((N - 1:Nat):Int):=by rw [wrap_i64 (by omega) (by omega)];omega
  have n2:IntKind.i64.wrap ((N:Int) - 2) = ((N - 2:Nat):Int):=by rw [wrap_i64 (by omega) (by omega)];omega
  rw [← hM1] at n1
  rw [← hM2] at n2
  have p1:(0:Int)≤(e:Int) + 1:=by omega
  have c1:(M1:Int) < (nd:Int):=by omega
  have c2:(M2:Int) < (nd:Int):=by omega
  have b1:off + M1 < B.length:=by omega
  have b2:off + M2 < B.length:=by omega
  have d1:=dch_lt (k % 10)
  have d2:=dch_lt (k / 10)
  generalize dch (k % 10) = y1 at *
  generalize dch (k / 10) = y0 at *
  unfold fbFr fbO
  (refine ⟨0,?_⟩;simp (maxSteps:=2000000) -implicitDefEqProofs [-getElem?_pos,go_sem,eqV,plen,s0,s1,p1,w1,n1,n2,c1,c2,b1,b2,d1,d2,isStrT,indexV,pset,joinTag])
theorem fb_r18 (k e M1 M2:Nat) (v12:AV) (hk:k < 100) (he:e = 2 * k) (hN:4≤N) (hnd:N≤nd) (hB:off + nd≤B.length) (hl:B.length≤1000) (hM1:M1 = N - 3) (hM2:M2 = N - 4) :
    ∃ code,((Tryz.f80.body).bind (codeAt [1,1,1,0,1,0,1,1,1,1,0])) = some code∧Run X (evT X) 80 1 code (fbFr off nd N [(12,v12),(14,.int .u32 (e:Nat))]) [some (fbO B)] ⟨.normal,fbFr off nd N [(12,v12)],[some (fbO ((B.set (off + M1) (dch (k % 10))).set (off + M2) (dch (k / 10))))]⟩:=by
  refine ⟨_,rfl,?_⟩
  obtain ⟨s0,s1⟩:=sm_at ⟨k,hk⟩
  simp only at s0 s1
  rw [← he] at s0 s1
  have w1:IntKind.u32.wrap ((e:Int) + 1) = ((e + 1:Nat):Int):=by
    unfold IntKind.wrap;simp [IntKind.signed,IntKind.bits];omega
  have n1:IntKind.i64.wrap ((N:Int) - 3) = ((N - 3:Nat):Int):=by rw [wrap_i64 (by omega) (by omega)];omega
  have n2:IntKind.i64.wrap ((N:Int) - 4) = ((N - 4:Nat):Int):=by rw [wrap_i64 (by omega) (by omega)];omega
  rw [← hM1] at n1
  rw [← hM2] at n2
  have p1:(0:Int)≤(e:Int) + 1:=by omega
  have c1:(M1:Int) < (nd:Int):=by omega
  have c2:(M2:Int) < (nd:Int):=by omega
  have b1:off + M1 < B.length:=by omega
  have b2:off + M2 < B.length:=by omega
  have d1:=dch_lt (k % 10)
  have d2:=dch_lt (k / 10)
  generalize dch (k % 10) = y1 at *
  generalize dch (k / 10) = y0 at *
  unfold fbFr fbO
  (refine ⟨0,?_⟩;simp (maxSteps:=2000000) -implicitDefEqProofs [-getElem?_pos,go_sem,eqV,plen,s0,s1,p1,w1,n1,n2,c1,c2,b1,b2,d1,d2,isStrT,indexV,pset,joinTag])
theorem fb_r23 (k e M1 M2:Nat) (v12:AV) (hk:k < 100) (he:e = 2 * k) (hN:2≤N) (hnd:N≤nd) (hB:off + nd≤B.length) (hl:B.length≤1000) (hM1:M1 = N - 1) (hM2:M2 = N - 2) :
    ∃ code,((Tryz.f80.body).bind (codeAt [1,1,1,1,0,1,0,1,1,0])) = some code∧Run X (evT X) 80 1 code (fbFr off nd N [(12,v12),(16,.int .u32 (e:Nat))]) [some (fbO B)] ⟨.normal,fbFr off nd N [(12,v12)],[some (fbO ((B.set (off + M1) (dch (k % 10))).set (off + M2) (dch (k / 10))))]⟩:=by
  refine ⟨_,rfl,?_⟩
  obtain ⟨s0,s1⟩:=sm_at ⟨k,hk⟩
  simp only at s0 s1
  rw [← he] at s0 s1
  have w1:IntKind.u32.wrap ((e:Int) + 1) = ((e + 1:Nat):Int):=by
    unfold IntKind.wrap;simp [IntKind.signed,IntKind.bits];omega
  have n1:IntKind.i64.wrap ((N:Int) - 1) = ((N - 1:Nat):Int):=by rw [wrap_i64 (by omega) (by omega)];omega
  have n2:IntKind.i64.wrap ((N:Int) - 2) = ((N - 2:Nat):Int):=by rw [wrap_i64 (by omega) (by omega)];omega
  rw [← hM1] at n1
  rw [← hM2] at n2
  have p1:(0:Int)≤(e:Int) + 1:=by omega
  have c1:(M1:Int) < (nd:Int):=by omega
  have c2:(M2:Int) < (nd:Int):=by omega
  have b1:off + M1 < B.length:=by omega
  have b2:off + M2 < B.length:=by omega
  have d1:=dch_lt (k % 10)
  have d2:=dch_lt (k / 10)
  generalize dch (k % 10) = y1 at *
  generalize dch (k / 10) = y0 at *
  unfold fbFr fbO
  (refine ⟨0,?_⟩;simp (maxSteps:=2000000) -implicitDefEqProofs [-getElem?_pos,go_sem,eqV,plen,s0,s1,p1,w1,n1,n2,c1,c2,b1,b2,d1,d2,isStrT,indexV,pset,joinTag])
end
end Go.Proofs.YtafdnpcamepbmaaGreatDoor
namespace Go.Proofs.YtafdnpcamepbmaaGreatDoor
open Go.AM
theorem wu32 {n:Nat} (h:n < 4294967296):IntKind.u32.wrap (n:Int) = (n:Int):=by
  unfold IntKind.wrap;simp [IntKind.signed,IntKind.bits];omega
theorem wu64 {n:Nat} (h:n < 18446744073709551616):IntKind.u64.wrap (n:Int) = (n:Int):=by
  unfold IntKind.wrap;simp [IntKind.signed,IntKind.bits];omega
theorem tmN (a b:Nat):(a:Int).tmod (b:Int) = ((a % b:Nat):Int):=rfl
theorem tdN (a b:Nat):(a:Int).tdiv (b:Int) = ((a / b:Nat):Int):=rfl
theorem dgs_four (u:Nat):dgs u 4 = [dch (u / 10 / 10 / 10 % 10),dch (u / 10 / 10 % 10),dch (u / 10 % 10),dch (u % 10)]:=rfl
theorem dgs_eight (u:Nat):dgs u 8 = dgs (u / 10000) 4 ++ dgs u 4:=by
  have:=dgs_add 4 4 u
  simpa using this
theorem pairs4 {x a b:Nat} (ha:a = x % 10000 / 100) (hb:b = x % 10000 % 100):[dch (a / 10),dch (a % 10),dch (b / 10),dch (b % 10)] = dgs x 4:=by
  rw [dgs_four]
  have h1:a / 10 = x / 10 / 10 / 10 % 10:=by omega
  have h2:a % 10 = x / 10 / 10 % 10:=by omega
  have h3:b / 10 = x / 10 % 10:=by omega
  have h4:b % 10 = x % 10:=by omega
  rw [h1,h2,h3,h4]
def FbS (B T:List UInt8) (off nd N len:Nat):Prop:=B.length = len∧(B.drop (off + N)).take (nd - N) = T
theorem FbS.pair {B T:List UInt8} {off nd M len:Nat} (h:FbS B T off nd (M + 2) len) (hM:M + 2≤nd) (hl:off + nd≤len) (y0 y1:UInt8):FbS ((B.set (off + (M + 1)) y1).set (off + M) y0) (y0 :: y1 :: T) off nd M len:=by
  obtain ⟨h1,h2⟩:=h
  refine ⟨by simp [h1],?_⟩
  have hT:∀ i,T[i]? = if i < nd - (M + 2) then B[off + (M + 2) + i]? else none:=by
    intro i
    rw [← h2,List.getElem?_take]
    simp only [List.getElem?_drop]
  apply List.ext_getElem?
  intro i
  rw [List.getElem?_take]
  simp only [List.getElem?_drop]
  match i with
  | 0 =>
    rw [if_pos (by omega)]
    show ((B.set (off + (M + 1)) y1).set (off + M) y0)[off + M]? = _
    rw [List.getElem?_set_self (by rw [List.length_set];omega)];rfl
  | 1 =>
    rw [if_pos (by omega),List.getElem?_set_ne (by omega),show off + M + 1 = off + (M + 1) by omega,List.getElem?_set_self (by omega)];rfl
  | i + 2 =>
    rw [List.getElem?_cons_succ,List.getElem?_cons_succ,hT i]
    by_cases hi:i < nd - (M + 2)
    · rw [if_pos hi,if_pos (by omega),List.getElem?_set_ne (by omega),List.getElem?_set_ne (by omega)]
      congr 1
      omega
    · rw [if_neg hi,if_neg (by omega)]
theorem FbS.one {B T:List UInt8} {off nd len:Nat} (h:FbS B T off nd 1 len) (hM:1≤nd) (hl:off + nd≤len) (y:UInt8):FbS (B.set off y) (y :: T) off nd 0 len:=by
  obtain ⟨h1,h2⟩:=h
  refine ⟨by simp [h1],?_⟩
  have hT:∀ i,T[i]? = if i < nd - 1 then B[off + 1 + i]? else none:=by
    intro i
    rw [← h2,List.getElem?_take]
    simp only [List.getElem?_drop]
  apply List.ext_getElem?
  intro i
  rw [List.getElem?_take]
  simp only [List.getElem?_drop]
  match i with
  | 0 =>
    rw [if_pos (by omega)]
    show (B.set off y)[off]? = _
    rw [List.getElem?_set_self (by omega)];rfl
  | i + 1 =>
    rw [List.getElem?_cons_succ,hT i]
    by_cases hi:i < nd - 1
    · rw [if_pos hi,if_pos (by omega),List.getElem?_set_ne (by omega)]
      congr 1
      omega
    · rw [if_neg hi,if_neg (by omega)]
section
variable (off nd:Nat)
theorem fb_head (B:List UInt8) (N u:Nat) (hu:u < 18446744073709551616):∀ (c2 c3 c4 c5 c6:Code),((Tryz.f80.body).bind (codeAt [1,0,0,0,1,0,0])) = some c2→((Tryz.f80.body).bind (codeAt [1,0,0,0,1,0,1,0])) = some c3→((Tryz.f80.body).bind (codeAt [1,0,0,0,1,0,1,1,0])) = some c4→((Tryz.f80.body).bind (codeAt [1,0,0,0,1,0,1,1,1,0])) = some c5→((Tryz.f80.body).bind (codeAt [1,0,0,0,1,0,1,1,1,1,0])) = some c6 →
    ∀ Q rest fr',Tells Q X (evT X) 80 1 rest (fbFu off nd N (u / 100000000) [(8,.int .u32 ((2 * (u % 100000000 % 10000 / 100):Nat):Int)),(9,.int .u32 ((2 * (u % 100000000 % 10000 % 100):Nat):Int)),(10,.int .u32 ((2 * (u % 100000000 / 10000 / 100):Nat):Int)),(11,.int .u32 ((2 * (u % 100000000 / 10000 % 100):Nat):Int))]) [some (fbO B)] →
      (fr' = fbFu off nd N u [(20,.bool true)])→Tells Q X (evT X) 80 1 (.seq c2 (.seq c3 (.seq c4 (.seq c5 (.seq c6 rest))))) fr' [some (fbO B)]:=by
  rintro c2 c3 c4 c5 c6 e2 e3 e4 e5 e6 Q rest fr' h rfl
  obtain ⟨x,hx⟩:∃ x,x = u % 100000000:=⟨_,rfl⟩
  rw [← hx] at h
  have xl:x < 100000000:=by omega
  have f1:(u:Int).tmod 100000000 = (x:Int):=by have:=tmN u 100000000;rw [← hx] at this;exact this
  have f1':(u:Int) % 100000000 = (x:Int):=by omega
  have f2:IntKind.u32.wrap (x:Int) = (x:Int):=wu32 (by omega)
  apply Tells.seq (fr':=fbFu off nd N u [(5,.int .u32 (x:Nat))]) (H':=[some (fbO B)])
  · refine piece (P:=fun cd=>Run X (evT X) 80 1 cd _ _ _) ⟨_,rfl,?_⟩ _ e2
    unfold fbFu
    (refine ⟨0,?_⟩;simp (maxSteps:=2000000) -implicitDefEqProofs [-getElem?_pos,go_sem,eqV,plen,f1,f1',f2])
  obtain ⟨q,hq⟩:∃ q,q = u / 100000000:=⟨_,rfl⟩
  rw [← hq] at h
  have g1:(u:Int).tdiv 100000000 = (q:Int):=by have:=tdN u 100000000;rw [← hq] at this;exact this
  have g1':(u:Int) / 100000000 = (q:Int):=by omega
  have g2:IntKind.u64.wrap (q:Int) = (q:Int):=wu64 (by omega)
  apply Tells.seq (fr':=fbFu off nd N q [(5,.int .u32 (x:Nat))]) (H':=[some (fbO B)])
  · refine piece (P:=fun cd=>Run X (evT X) 80 1 cd _ _ _) ⟨_,rfl,?_⟩ _ e3
    unfold fbFu
    (refine ⟨0,?_⟩;simp (maxSteps:=2000000) -implicitDefEqProofs [-getElem?_pos,go_sem,eqV,plen,g1,g1',g2])
  obtain ⟨a,ha⟩:∃ a,a = x / 10000:=⟨_,rfl⟩
  obtain ⟨b,hb⟩:∃ b,b = x % 10000:=⟨_,rfl⟩
  rw [← ha,← hb] at h
  have a1:(x:Int).tdiv 10000 = (a:Int):=by have:=tdN x 10000;rw [← ha] at this;exact this
  have a1':(x:Int) / 10000 = (a:Int):=by omega
  have a2:IntKind.u32.wrap (a:Int) = (a:Int):=wu32 (by omega)
  have b1:(x:Int).tmod 10000 = (b:Int):=by have:=tmN x 10000;rw [← hb] at this;exact this
  have b1':(x:Int) % 10000 = (b:Int):=by omega
  apply Tells.seq (fr':=fbFu off nd N q [(6,.int .u32 (a:Nat)),(7,.int .u32 (b:Nat))]) (H':=[some (fbO B)])
  · refine piece (P:=fun cd=>Run X (evT X) 80 1 cd _ _ _) ⟨_,rfl,?_⟩ _ e4
    unfold fbFu
    (refine ⟨0,?_⟩;simp (maxSteps:=2000000) -implicitDefEqProofs [-getElem?_pos,go_sem,eqV,plen,a1,a1',a2,b1,b1'])
  have dm:∀ z:Nat,z < 10000→(z:Int).tdiv 100 = ((z / 100:Nat):Int)∧(z:Int) / 100 = ((z / 100:Nat):Int)∧IntKind.u32.wrap ((z / 100:Nat):Int) = ((z / 100:Nat):Int)∧IntKind.u32.wrap (((z / 100:Nat):Int) * 2) = ((2 * (z / 100):Nat):Int)∧(z:Int).tmod 100 = ((z % 100:Nat):Int)∧(z:Int) % 100 = ((z % 100:Nat):Int)∧IntKind.u32.wrap (((z % 100:Nat):Int) * 2) = ((2 * (z % 100):Nat):Int):=by
    intro z hz
    refine ⟨tdN z 100,by omega,wu32 (by omega),?_,tmN z 100,by omega,?_⟩
    · rw [show ((z / 100:Nat):Int) * 2 = ((2 * (z / 100):Nat):Int) by omega];exact wu32 (by omega)
    · rw [show ((z % 100:Nat):Int) * 2 = ((2 * (z % 100):Nat):Int) by omega];exact wu32 (by omega)
  obtain ⟨p1,p2,p3,p4,p5,p6,p7⟩:=dm b (by omega)
  obtain ⟨q1,q2,q3,q4,q5,q6,q7⟩:=dm a (by omega)
  apply Tells.seq (fr':=fbFu off nd N q [(6,.int .u32 (a:Nat)),(8,.int .u32 ((2 * (b / 100):Nat):Int)),(9,.int .u32 ((2 * (b % 100):Nat):Int))]) (H':=[some (fbO B)])
  · refine piece (P:=fun cd=>Run X (evT X) 80 1 cd _ _ _) ⟨_,rfl,?_⟩ _ e5
    generalize b / 100 = bq at *
    generalize b % 100 = bm at *
    generalize hh1:2 * bq = bq2 at *
    generalize hh2:2 * bm = bm2 at *
    unfold fbFu
    (refine ⟨0,?_⟩;simp (maxSteps:=2000000) -implicitDefEqProofs [-getElem?_pos,go_sem,eqV,plen,p1,p2,p3,p4,p5,p6,p7])
  refine Tells.seq ?_ h
  refine piece (P:=fun cd=>Run X (evT X) 80 1 cd _ _ _) ⟨_,rfl,?_⟩ _ e6
  generalize a / 100 = aq at *
  generalize a % 100 = am at *
  generalize hh1:2 * aq = aq2 at *
  generalize hh2:2 * am = am2 at *
  unfold fbFu
  (refine ⟨0,?_⟩;simp (maxSteps:=2000000) -implicitDefEqProofs [-getElem?_pos,go_sem,eqV,plen,q1,q2,q3,q4,q5,q6,q7])
end
end Go.Proofs.YtafdnpcamepbmaaGreatDoor
namespace Go.Proofs.YtafdnpcamepbmaaGreatDoor
open Go.AM
section
variable (off nd:Nat)
theorem fb_loop (len u0:Nat) (B0:List UInt8) (hu0:u0 < 10 ^ nd) (h64:u0 < 18446744073709551616) (hl:off + nd≤len) (hlen:len≤1000) (hB0:B0.length = len) :
    ∃ code,((Tryz.f80.body).bind (codeAt [1,0])) = some code∧Tells (Goes fun fr H=>∃ N B,N < 8∧N≤nd∧fr = fbFu off nd N (u0 / 10 ^ (nd - N)) [(20,.bool false)]∧H = [some (fbO B)]∧FbS B (dgs u0 (nd - N)) off nd N len) X (evT X) 80 1 code (fbFu off nd nd u0 []) [some (fbO B0)]:=by
  refine ⟨_,rfl,?_⟩
  refine Tells.block (P:=fun fr H=>∃ N B,N < 8∧N≤nd∧fr = fbFu off nd N (u0 / 10 ^ (nd - N)) [(20,.bool false)]∧H = [some (fbO B)]∧FbS B (dgs u0 (nd - N)) off nd N len) ?_
  refine Tells.loopP (fun k fr H=>∃ N B,k = N∧N≤nd∧fr = fbFu off nd N (u0 / 10 ^ (nd - N)) []∧H = [some (fbO B)]∧FbS B (dgs u0 (nd - N)) off nd N len) ?_ (k:=nd) ⟨nd,B0,rfl,Nat.le_refl _,by simp,rfl,hB0,by simp [dgs]⟩
  rintro k fr H ⟨N,B,rfl,hN,rfl,rfl,hS⟩
  obtain ⟨u,hu⟩:∃ u,u = u0 / 10 ^ (nd - k):=⟨_,rfl⟩
  have hul:u < 18446744073709551616:=by
    rw [hu];exact Nat.lt_of_le_of_lt (Nat.div_le_self _ _) h64
  rw [← hu]
  apply Tells.assoc
  by_cases h8:k < 8
  · have h8I:¬ ((8:Int)≤(k:Int)):=by omega
    have h8N:¬ (8≤k):=by omega
    refine Tells.of (o:=⟨.exit 0,fbFu off nd k u [(20,.bool false)],[some (fbO B)]⟩) ⟨0,?_⟩ (.inr ⟨by simp,rfl,k,B,h8,hN,by rw [hu],rfl,hS⟩)
    unfold fbFu
    simp (maxSteps:=2000000) -implicitDefEqProofs [-getElem?_pos,go_sem,eqV,plen,h8I,h8N]
  have h8I:(8:Int)≤(k:Int):=by omega
  have h8N:8≤k:=by omega
  apply Tells.seq (fr':=fbFu off nd k u [(20,.bool true)]) (H':=[some (fbO B)])
  · unfold fbFu
    (refine ⟨0,?_⟩;simp (maxSteps:=2000000) -implicitDefEqProofs [-getElem?_pos,go_sem,eqV,plen,h8I,h8N])
  apply Tells.seq (fr':=fbFu off nd k u [(20,.bool true)]) (H':=[some (fbO B)])
  · exact Run.cond (d:=true) rfl ⟨0,rfl⟩
  obtain ⟨M,rfl⟩:∃ M,k = M + 8:=⟨k - 8,by omega⟩
  refine Tells.blk ?_ (by
    rintro o (⟨h,_⟩ | ⟨_,h,_⟩)
    · rw [h];simp
    · rw [h];simp)
  have hh:=fb_head off nd B (M + 8) u hul _ _ _ _ _ rfl rfl rfl rfl rfl
  obtain ⟨x,hx⟩:∃ x,x = u % 100000000:=⟨_,rfl⟩
  rw [← hx] at hh
  have hB:=hS.1
  have s1:=hS.pair (M:=M + 6) hN (by omega) (dch (x % 10000 % 100 / 10)) (dch (x % 10000 % 100 % 10))
  have s2:=s1.pair (M:=M + 4) (by omega) (by omega) (dch (x % 10000 / 100 / 10)) (dch (x % 10000 / 100 % 10))
  have s3:=s2.pair (M:=M + 2) (by omega) (by omega) (dch (x / 10000 % 100 / 10)) (dch (x / 10000 % 100 % 10))
  have s4:=s3.pair (M:=M) (by omega) (by omega) (dch (x / 10000 / 100 / 10)) (dch (x / 10000 / 100 % 10))
  have hdg:dch (x / 10000 / 100 / 10) :: dch (x / 10000 / 100 % 10) :: dch (x / 10000 % 100 / 10) :: dch (x / 10000 % 100 % 10) :: dch (x % 10000 / 100 / 10) :: dch (x % 10000 / 100 % 10) :: dch (x % 10000 % 100 / 10) :: dch (x % 10000 % 100 % 10) :: dgs u0 (nd - (M + 8)) = dgs u0 (nd - M):=by
    have p1:=pairs4 (x:=x) rfl rfl
    have hx4:x / 10000 < 10000:=by omega
    have p2:=pairs4 (x:=x / 10000) rfl rfl
    rw [Nat.mod_eq_of_lt hx4] at p2
    have h3:dgs u 8 = dgs (x / 10000) 4 ++ dgs x 4:=by
      rw [← dgs_eight,hx]
      exact (dgs_mod 8 u).symm
    rw [show nd - M = 8 + (nd - (M + 8)) by omega,dgs_add (nd - (M + 8)) 8 u0,← hu,h3,← p1,← p2]
    rfl
  rw [hdg] at s4
  have r7:=fun B hB hl=>fb_r7 B off nd (M + 8) (u / 100000000) (x % 10000 % 100) _ (M + 6 + 1) (M + 6) (.int .u32 ((2 * (x % 10000 / 100):Nat):Int)) (.int .u32 ((2 * (x / 10000 / 100):Nat):Int)) (.int .u32 ((2 * (x / 10000 % 100):Nat):Int)) (by omega) rfl (by omega) (by omega) hB hl (by omega) (by omega)
  have r8:=fun B hB hl=>fb_r8 B off nd (M + 8) (u / 100000000) (x % 10000 / 100) _ (M + 4 + 1) (M + 4) (.int .u32 ((2 * (x / 10000 / 100):Nat):Int)) (.int .u32 ((2 * (x / 10000 % 100):Nat):Int)) (by omega) rfl (by omega) (by omega) hB hl (by omega) (by omega)
  have r9:=fun B hB hl=>fb_r9 B off nd (M + 8) (u / 100000000) (x / 10000 % 100) _ (M + 2 + 1) (M + 2) (.int .u32 ((2 * (x / 10000 / 100):Nat):Int)) (by omega) rfl (by omega) (by omega) hB hl (by omega) (by omega)
  have r10:=fun B hB hl=>fb_r10 B off nd (M + 8) (u / 100000000) (x / 10000 / 100) _ (M + 1) M (by omega) rfl (by omega) (by omega) hB hl (by omega) (by omega)
  refine (hh _ _ _ ?_ rfl)
  apply Tells.seq (piece (r7 B (by omega) (by omega)) _ rfl)
  apply Tells.seq (piece (r8 _ (by simp only [List.length_set];omega) (by simp only [List.length_set];omega)) _ rfl)
  apply Tells.seq (piece (r9 _ (by simp only [List.length_set];omega) (by simp only [List.length_set];omega)) _ rfl)
  apply Tells.seq (piece (r10 _ (by simp only [List.length_set];omega) (by simp only [List.length_set];omega)) _ rfl)
  have hq:u / 100000000 = u0 / 10 ^ (nd - M):=by
    rw [hu,Nat.div_div_eq_div_mul,show (100000000:Nat) = 10 ^ 8 by decide,← Nat.pow_add,show nd - (M + 8) + 8 = nd - M by omega]
  have w8:IntKind.i64.wrap (((M + 8:Nat):Int) - 8) = (M:Int):=by rw [wrap_i64 (by omega) (by omega)];omega
  refine Tells.of (o:=⟨.normal,fbFu off nd M (u / 100000000) [],_⟩) ⟨0,?_⟩ (.inl ⟨rfl,M,by omega,M,_,rfl,by omega,by rw [hq],rfl,s4⟩)
  unfold fbFu
  generalize hM8:M + 8 = M8 at *
  simp (maxSteps:=2000000) -implicitDefEqProofs [-getElem?_pos,go_sem,eqV,plen,w8]
end
end Go.Proofs.YtafdnpcamepbmaaGreatDoor
namespace Go.Proofs.YtafdnpcamepbmaaGreatDoor
open Go.AM
theorem top_lt {u0 nd N:Nat} (h:u0 < 10 ^ nd) (hN:N≤nd):u0 / 10 ^ (nd - N) < 10 ^ N:=by
  rw [Nat.div_lt_iff_lt_mul (Nat.pow_pos (by omega)),← Nat.pow_add,show N + (nd - N) = nd by omega]
  exact h
section
variable (off nd:Nat)
def FbT (u0 len N:Nat) (fr:AM.Frame) (H:AM.Heap):Prop:=∃ B tl,fr = fbFr off nd N ([(12,.int .u32 ((u0 / 10 ^ (nd - N):Nat):Int))] ++ tl)∧H = [some (fbO B)]∧FbS B (dgs u0 (nd - N)) off nd N len
theorem fb_s4 (len u0 N:Nat) (fr:AM.Frame) (H:AM.Heap) (hu0:u0 < 10 ^ nd) (hN8:N < 8) (hN:N≤nd) (hl:off + nd≤len) (hlen:len≤1000) (h:FbT off nd u0 len N fr H) :
    ∃ code,((Tryz.f80.body).bind (codeAt [1,1,1,0])) = some code∧Tells (Goes fun fr H=>∃ N2,N2 < 4∧N2≤nd∧FbT off nd u0 len N2 fr H) X (evT X) 80 1 code fr H:=by
  refine ⟨_,rfl,?_⟩
  obtain ⟨B,tl,rfl,rfl,hS⟩:=h
  obtain ⟨u,hu⟩:∃ u,u = u0 / 10 ^ (nd - N):=⟨_,rfl⟩
  rw [← hu]
  have hul:u < 10 ^ N:=by rw [hu];exact top_lt hu0 hN
  by_cases h4:N < 4
  · have h4I:¬ ((4:Int)≤(N:Int)):=by omega
    have h4N:¬ (4≤N):=by omega
    refine Tells.of (o:=⟨.normal,fbFr off nd N [(12,.int .u32 (u:Nat)),(99,.bool false)],[some (fbO B)]⟩) ⟨0,?_⟩ ⟨rfl,N,h4,hN,B,[(99,.bool false)],by rw [← hu];rfl,rfl,hS⟩
    unfold fbFr
    simp (maxSteps:=2000000) -implicitDefEqProofs [-getElem?_pos,go_sem,eqV,plen,h4I,h4N]
  have h4I:(4:Int)≤(N:Int):=by omega
  have h4N:4≤N:=by omega
  have hul8:u < 100000000:=by
    have:(10:Nat) ^ N≤10 ^ 8:=Nat.pow_le_pow_right (by omega) (by omega)
    have:(10:Nat) ^ 8 = 100000000:=by decide
    omega
  apply Tells.seq (fr':=fbFr off nd N [(12,.int .u32 (u:Nat)),(99,.bool true)]) (H':=[some (fbO B)])
  · unfold fbFr
    (refine ⟨0,?_⟩;simp (maxSteps:=2000000) -implicitDefEqProofs [-getElem?_pos,go_sem,eqV,plen,h4I,h4N])
  refine Tells.condT rfl ?_
  obtain ⟨M,rfl⟩:∃ M,N = M + 4:=⟨N - 4,by omega⟩
  have hB:=hS.1
  obtain ⟨b,hb⟩:∃ b,b = u % 10000:=⟨_,rfl⟩
  have b1:(u:Int).tmod 10000 = (b:Int):=by have:=tmN u 10000;rw [← hb] at this;exact this
  have b1':(u:Int) % 10000 = (b:Int):=by omega
  apply Tells.seq (fr':=fbFr off nd (M + 4) [(12,.int .u32 (u:Nat)),(13,.int .u32 (b:Nat))]) (H':=[some (fbO B)])
  · generalize M + 4 = M4 at *
    unfold fbFr
    (refine ⟨0,?_⟩;simp (maxSteps:=2000000) -implicitDefEqProofs [-getElem?_pos,go_sem,eqV,plen,b1,b1'])
  obtain ⟨q,hq⟩:∃ q,q = u / 10000:=⟨_,rfl⟩
  have g1:(u:Int).tdiv 10000 = (q:Int):=by have:=tdN u 10000;rw [← hq] at this;exact this
  have g1':(u:Int) / 10000 = (q:Int):=by omega
  have g2:IntKind.u32.wrap (q:Int) = (q:Int):=wu32 (by omega)
  apply Tells.seq (fr':=fbFr off nd (M + 4) [(12,.int .u32 (q:Nat)),(13,.int .u32 (b:Nat))]) (H':=[some (fbO B)])
  · generalize M + 4 = M4 at *
    unfold fbFr
    (refine ⟨0,?_⟩;simp (maxSteps:=2000000) -implicitDefEqProofs [-getElem?_pos,go_sem,eqV,plen,g1,g1',g2])
  have dm:∀ z:Nat,z < 10000→(z:Int).tdiv 100 = ((z / 100:Nat):Int)∧(z:Int) / 100 = ((z / 100:Nat):Int)∧IntKind.u32.wrap ((z / 100:Nat):Int) = ((z / 100:Nat):Int)∧IntKind.u32.wrap (((z / 100:Nat):Int) * 2) = ((2 * (z / 100):Nat):Int)∧(z:Int).tmod 100 = ((z % 100:Nat):Int)∧(z:Int) % 100 = ((z % 100:Nat):Int)∧IntKind.u32.wrap (((z % 100:Nat):Int) * 2) = ((2 * (z % 100):Nat):Int):=by
    intro z hz
    refine ⟨tdN z 100,by omega,wu32 (by omega),?_,tmN z 100,by omega,?_⟩
    · rw [show ((z / 100:Nat):Int) * 2 = ((2 * (z / 100):Nat):Int) by omega];exact wu32 (by omega)
    · rw [show ((z % 100:Nat):Int) * 2 = ((2 * (z % 100):Nat):Int) by omega];exact wu32 (by omega)
  obtain ⟨p1,p2,p3,p4,p5,p6,p7⟩:=dm b (by omega)
  apply Tells.seq (fr':=fbFr off nd (M + 4) [(12,.int .u32 (q:Nat)),(14,.int .u32 ((2 * (b / 100):Nat):Int)),(15,.int .u32 ((2 * (b % 100):Nat):Int))]) (H':=[some (fbO B)])
  · generalize M + 4 = M4 at *
    generalize b / 100 = bq at *
    generalize b % 100 = bm at *
    generalize hh1:2 * bq = bq2 at *
    generalize hh2:2 * bm = bm2 at *
    unfold fbFr
    (refine ⟨0,?_⟩;simp (maxSteps:=2000000) -implicitDefEqProofs [-getElem?_pos,go_sem,eqV,plen,p1,p2,p3,p4,p5,p6,p7])
  have s1:=hS.pair (M:=M + 2) hN (by omega) (dch (b % 100 / 10)) (dch (b % 100 % 10))
  have s2:=s1.pair (M:=M) (by omega) (by omega) (dch (b / 100 / 10)) (dch (b / 100 % 10))
  have hdg:dch (b / 100 / 10) :: dch (b / 100 % 10) :: dch (b % 100 / 10) :: dch (b % 100 % 10) :: dgs u0 (nd - (M + 4)) = dgs u0 (nd - M):=by
    have p1:=pairs4 (x:=u) (a:=b / 100) (b:=b % 100) (by rw [hb]) (by rw [hb])
    rw [show nd - M = 4 + (nd - (M + 4)) by omega,dgs_add (nd - (M + 4)) 4 u0,← hu,← p1]
    rfl
  rw [hdg] at s2
  have r17:=fb_r17 B off nd (M + 4) (b % 100) _ (M + 2 + 1) (M + 2) (.int .u32 (q:Nat)) (.int .u32 ((2 * (b / 100):Nat):Int)) (by omega) rfl (by omega) (by omega) (by omega) (by omega) (by omega) (by omega)
  apply Tells.seq (piece r17 _ rfl)
  have r18:=fb_r18 ((B.set (off + (M + 2 + 1)) (dch (b % 100 % 10))).set (off + (M + 2)) (dch (b % 100 / 10))) off nd (M + 4) (b / 100) _ (M + 1) M (.int .u32 (q:Nat)) (by omega) rfl (by omega) (by omega) (by simp only [List.length_set];omega) (by simp only [List.length_set];omega) (by omega) (by omega)
  apply Tells.seq (piece r18 _ rfl)
  have w4:IntKind.i64.wrap (((M + 4:Nat):Int) - 4) = (M:Int):=by rw [wrap_i64 (by omega) (by omega)];omega
  have hqe:q = u0 / 10 ^ (nd - M):=by
    rw [hq,hu,Nat.div_div_eq_div_mul,show (10000:Nat) = 10 ^ 4 by decide,← Nat.pow_add,show nd - (M + 4) + 4 = nd - M by omega]
  refine Tells.of (o:=⟨.normal,fbFr off nd M [(12,.int .u32 (q:Nat))],_⟩) ⟨0,?_⟩ ⟨rfl,M,by omega,by omega,_,[],by rw [← hqe];rfl,rfl,s2⟩
  unfold fbFr
  generalize hM4:M + 4 = M4 at *
  simp (maxSteps:=2000000) -implicitDefEqProofs [-getElem?_pos,go_sem,eqV,plen,w4]
theorem fb_s2 (len u0 N:Nat) (fr:AM.Frame) (H:AM.Heap) (hu0:u0 < 10 ^ nd) (hN8:N < 4) (hN:N≤nd) (hl:off + nd≤len) (hlen:len≤1000) (h:FbT off nd u0 len N fr H) :
    ∃ code,((Tryz.f80.body).bind (codeAt [1,1,1,1,0])) = some code∧Tells (Goes fun fr H=>∃ N2,N2 < 2∧N2≤nd∧FbT off nd u0 len N2 fr H) X (evT X) 80 1 code fr H:=by
  refine ⟨_,rfl,?_⟩
  obtain ⟨B,tl,rfl,rfl,hS⟩:=h
  obtain ⟨u,hu⟩:∃ u,u = u0 / 10 ^ (nd - N):=⟨_,rfl⟩
  rw [← hu]
  have hul:u < 10 ^ N:=by rw [hu];exact top_lt hu0 hN
  by_cases h4:N < 2
  · have h4I:¬ ((2:Int)≤(N:Int)):=by omega
    have h4N:¬ (2≤N):=by omega
    refine Tells.of (o:=⟨.normal,fbFr off nd N [(12,.int .u32 (u:Nat)),(139,.bool false)],[some (fbO B)]⟩) ⟨0,?_⟩ ⟨rfl,N,h4,hN,B,[(139,.bool false)],by rw [← hu];rfl,rfl,hS⟩
    unfold fbFr
    simp (maxSteps:=2000000) -implicitDefEqProofs [-getElem?_pos,go_sem,eqV,plen,h4I,h4N]
  have h4I:(2:Int)≤(N:Int):=by omega
  have h4N:2≤N:=by omega
  have hul8:u < 10000:=by
    have:(10:Nat) ^ N≤10 ^ 4:=Nat.pow_le_pow_right (by omega) (by omega)
    have:(10:Nat) ^ 4 = 10000:=by decide
    omega
  apply Tells.seq (fr':=fbFr off nd N [(12,.int .u32 (u:Nat)),(139,.bool true)]) (H':=[some (fbO B)])
  · unfold fbFr
    (refine ⟨0,?_⟩;simp (maxSteps:=2000000) -implicitDefEqProofs [-getElem?_pos,go_sem,eqV,plen,h4I,h4N])
  refine Tells.condT rfl ?_
  obtain ⟨M,rfl⟩:∃ M,N = M + 2:=⟨N - 2,by omega⟩
  have hB:=hS.1
  obtain ⟨b,hb⟩:∃ b,b = u % 100:=⟨_,rfl⟩
  have b1:(u:Int).tmod 100 = (b:Int):=by have:=tmN u 100;rw [← hb] at this;exact this
  have b1':(u:Int) % 100 = (b:Int):=by omega
  have b2:IntKind.u32.wrap ((b:Int) * 2) = ((2 * b:Nat):Int):=by rw [show (b:Int) * 2 = ((2 * b:Nat):Int) by omega];exact wu32 (by omega)
  apply Tells.seq (fr':=fbFr off nd (M + 2) [(12,.int .u32 (u:Nat)),(16,.int .u32 ((2 * b:Nat):Int))]) (H':=[some (fbO B)])
  · generalize M + 2 = M4 at *
    generalize hh2:2 * b = bm2 at *
    unfold fbFr
    (refine ⟨0,?_⟩;simp (maxSteps:=2000000) -implicitDefEqProofs [-getElem?_pos,go_sem,eqV,plen,b1,b1',b2])
  obtain ⟨q,hq⟩:∃ q,q = u / 100:=⟨_,rfl⟩
  have g1:(u:Int).tdiv 100 = (q:Int):=by have:=tdN u 100;rw [← hq] at this;exact this
  have g1':(u:Int) / 100 = (q:Int):=by omega
  have g2:IntKind.u32.wrap (q:Int) = (q:Int):=wu32 (by omega)
  apply Tells.seq (fr':=fbFr off nd (M + 2) [(12,.int .u32 (q:Nat)),(16,.int .u32 ((2 * b:Nat):Int))]) (H':=[some (fbO B)])
  · generalize M + 2 = M4 at *
    generalize hh2:2 * b = bm2 at *
    unfold fbFr
    (refine ⟨0,?_⟩;simp (maxSteps:=2000000) -implicitDefEqProofs [-getElem?_pos,go_sem,eqV,plen,g1,g1',g2])
  have s1:=hS.pair (M:=M) hN (by omega) (dch (b / 10)) (dch (b % 10))
  have hdg:dch (b / 10) :: dch (b % 10) :: dgs u0 (nd - (M + 2)) = dgs u0 (nd - M):=by
    have h1:b / 10 = u / 10 % 10:=by omega
    have h2:b % 10 = u % 10:=by omega
    rw [show nd - M = 2 + (nd - (M + 2)) by omega,dgs_add (nd - (M + 2)) 2 u0,← hu,dgs_two,h1,h2]
    rfl
  rw [hdg] at s1
  have r23:=fb_r23 B off nd (M + 2) b _ (M + 1) M (.int .u32 (q:Nat)) (by omega) rfl (by omega) (by omega) (by omega) (by omega) (by omega) (by omega)
  apply Tells.seq (piece r23 _ rfl)
  have w4:IntKind.i64.wrap (((M + 2:Nat):Int) - 2) = (M:Int):=by rw [wrap_i64 (by omega) (by omega)];omega
  have hqe:q = u0 / 10 ^ (nd - M):=by
    rw [hq,hu,Nat.div_div_eq_div_mul,show (100:Nat) = 10 ^ 2 by decide,← Nat.pow_add,show nd - (M + 2) + 2 = nd - M by omega]
  refine Tells.of (o:=⟨.normal,fbFr off nd M [(12,.int .u32 (q:Nat))],_⟩) ⟨0,?_⟩ ⟨rfl,M,by omega,by omega,_,[],by rw [← hqe];rfl,rfl,s1⟩
  unfold fbFr
  generalize hM4:M + 2 = M4 at *
  simp (maxSteps:=2000000) -implicitDefEqProofs [-getElem?_pos,go_sem,eqV,plen,w4]
theorem fb_s1 (len u0 N:Nat) (fr:AM.Frame) (H:AM.Heap) (hu0:u0 < 10 ^ nd) (hnd:1≤nd) (hN8:N < 2) (hN:N≤nd) (hl:off + nd≤len) (hlen:len≤1000) (h:FbT off nd u0 len N fr H) :
    ∃ code,((Tryz.f80.body).bind (codeAt [1,1,1,1,1])) = some code∧Tells (Goes fun fr H=>∃ B,H = [some (fbO B)]∧FbS B (dgs u0 nd) off nd 0 len) X (evT X) 80 1 code fr H:=by
  refine ⟨_,rfl,?_⟩
  obtain ⟨B,tl,rfl,rfl,hS⟩:=h
  obtain ⟨u,hu⟩:∃ u,u = u0 / 10 ^ (nd - N):=⟨_,rfl⟩
  rw [← hu]
  have hul:u < 10 ^ N:=by rw [hu];exact top_lt hu0 hN
  have hB:=hS.1
  match N,hN8 with
  | 0,_ =>
    refine Tells.of (o:=⟨.normal,[(0,.sl 0 off nd 0),(12,.int .u32 (u:Nat)),(161,.bool false)],[some (fbO B)]⟩) ⟨0,?_⟩ ⟨rfl,B,rfl,by simpa using hS⟩
    unfold fbFr
    simp (maxSteps:=2000000) -implicitDefEqProofs [-getElem?_pos,go_sem,eqV,plen]
  | 1,_ =>
    have hu10:u < 10:=by simpa using hul
    have w1:IntKind.u32.wrap (48 + (u:Int)) = ((48 + u:Nat):Int):=by
      rw [show (48:Int) + (u:Int) = ((48 + u:Nat):Int) by omega];exact wu32 (by omega)
    have w2:IntKind.u8.wrap ((48 + u:Nat):Int) = ((dch u).toNat:Int):=by
      unfold IntKind.wrap dch;simp [IntKind.signed,IntKind.bits]
    have d1:=dch_lt u
    have b1:off < B.length:=by omega
    have c1:(0:Int) < (nd:Int):=by omega
    have c2:0 < nd:=by omega
    have s1:=hS.one hnd (by omega) (dch u)
    have hdg:dch u :: dgs u0 (nd - 1) = dgs u0 nd:=by
      conv=>rhs;rw [show nd = 1 + (nd - 1) by omega]
      rw [dgs_add (nd - 1) 1 u0,← hu,dgs_one,Nat.mod_eq_of_lt hu10];rfl
    rw [hdg] at s1
    refine Tells.of (o:=⟨.normal,[],[some (fbO (B.set off (dch u)))]⟩) ⟨0,?_⟩ ⟨rfl,_,rfl,s1⟩
    generalize hz:48 + u = z at *
    generalize dch u = y at *
    unfold fbFr fbO
    simp (maxSteps:=2000000) -implicitDefEqProofs [-getElem?_pos,go_sem,eqV,plen,w1,w2,d1,b1,c1,c2,pset,joinTag]
end
theorem fb_code (off nd len u0:Nat) (B:List UInt8) (hnd:1≤nd) (hu0:u0 < 10 ^ nd) (h64:u0 < 18446744073709551616) (hl:off + nd≤len) (hlen:len≤1000) (hB:B.length = len):∃ code,Tryz.f80.body = some code ∧
    Tells (Goes fun fr H=>∃ B,H = [some (fbO B)]∧FbS B (dgs u0 nd) off nd 0 len) X (evT X) 80 1 code [(0,.sl 0 off nd 0),(1,.int .u64 (u0:Nat))] [some (fbO B)]:=by
  refine ⟨_,rfl,?_⟩
  apply Tells.seq (fr':=fbFu off nd nd u0 []) (H':=[some (fbO B)])
  · unfold fbFu fbO
    (refine ⟨0,?_⟩;simp (maxSteps:=2000000) -implicitDefEqProofs [-getElem?_pos,go_sem,eqV,plen])
  apply Tells.andThen (piece (fb_loop off nd len u0 B hu0 h64 hl hlen hB) _ rfl)
  rintro fr H ⟨N,B2,hN8,hN,rfl,rfl,hS⟩
  obtain ⟨u,hu⟩:∃ u,u = u0 / 10 ^ (nd - N):=⟨_,rfl⟩
  have hul:u < 10 ^ N:=by rw [hu];exact top_lt hu0 hN
  have hul8:u < 100000000:=by
    have:(10:Nat) ^ N≤10 ^ 8:=Nat.pow_le_pow_right (by omega) (by omega)
    have:(10:Nat) ^ 8 = 100000000:=by decide
    omega
  have w1:IntKind.u32.wrap (u:Int) = (u:Int):=wu32 (by omega)
  rw [← hu]
  apply Tells.seq (fr':=fbFr off nd N [(12,.int .u32 (u:Nat))]) (H':=[some (fbO B2)])
  · unfold fbFu fbFr
    (refine ⟨0,?_⟩;simp (maxSteps:=2000000) -implicitDefEqProofs [-getElem?_pos,go_sem,eqV,plen,w1])
  apply Tells.andThen (piece (fb_s4 off nd len u0 N _ _ hu0 hN8 hN hl hlen ⟨B2,[],by rw [← hu];rfl,rfl,hS⟩) _ rfl)
  rintro fr H ⟨N2,h1,h2,h3⟩
  apply Tells.andThen (piece (fb_s2 off nd len u0 N2 _ _ hu0 h1 h2 hl hlen h3) _ rfl)
  rintro fr H ⟨N3,h4,h5,h6⟩
  exact piece (fb_s1 off nd len u0 N3 _ _ hu0 hnd h4 h5 hl hlen h6) _ rfl
def fbP (B:List UInt8):AM.Obj:=⟨.pb B,0,some 24,1,false,false,0⟩
theorem fb_ev {H:AM.Heap} {o off nd u:Nat} {B:List UInt8} (ho:H[o]? = some (some (fbP B))) (hnd:1≤nd) (hu:u < 10 ^ nd) (h64:u < 18446744073709551616) (hl:off + nd≤B.length) (hlen:B.length≤1000) :
    ∃ B',FbS B' (dgs u nd) off nd 0 B.length∧evT X 80 [.sl o off nd 0,.int .u64 (u:Nat)] H = some (.tup [],upd H o (some (fbP B'))):=by
  obtain ⟨code,hcode,⟨ex,fr,E⟩,⟨he,B',hE,hS⟩,hr⟩:=fb_code off nd B.length u B hnd hu h64 hl hlen rfl
  simp only at he hE
  subst he hE
  refine ⟨B',hS,?_⟩
  have:=Ev1.rwS (C:=X) (f:=80) (H:=H) (o:=o) (off:=off) (len:=nd) (g:=0) (ob:=fbP B) (ob1:=fbO B') (xs:=[.int .u64 (u:Nat)]) (ys:=[.int .u64 (u:Nat)]) (lents:=[⟨[],[]⟩]) (l:=[]) (n:=3) (evT_below X) Tryz.func80 hcode rfl ho rfl rfl rfl rfl rfl (by simp [disjoint]) rfl (by simp [gtag])
    (by rw [par80];exact hr) (.inl rfl) rfl (restH:=[]) rfl rfl rfl rfl (.inr rfl) rfl rfl
  exact evT_eq this
theorem pow10_at:∀ t:Fin 20,([1,10,100,1000,10000,100000,1000000,10000000,100000000,1000000000,10000000000,100000000000,1000000000000,10000000000000,100000000000000,1000000000000000,10000000000000000,100000000000000000,1000000000000000000,10000000000000000000]:List Int)[t.val]? = some ((10 ^ t.val:Nat):Int):=by decide +kernel
theorem log_ev {H:AM.Heap} {n:Nat} (h:n < 65):evT X 88 [.int .i64 (n:Nat)] H = some (.int .i64 ((n * 78913 / 2 ^ 18:Nat):Int),H) :=
  evT_eq (Ev1.each (T:=fun _ _ _=>none) Below.none (n:=50) (N:=65) (a:=fun k=>.int .i64 (k:Nat)) (v:=fun n=>.int .i64 ((n * 78913 / 2 ^ 18:Nat):Int)) (by kernel_rfl) (fun _=>rfl) h H)
theorem b2_ev {H:AM.Heap} (b:Bool):evT X 90 [.bool b] H = some (.int .i64 (if b then 1 else 0),H):=by
  cases b
  · exact evT_eq (Ev1.triedP (T:=fun _ _ _=>none) Below.none (n:=50) (by kernel_rfl) rfl H)
  · exact evT_eq (Ev1.triedP (T:=fun _ _ _=>none) Below.none (n:=50) (by kernel_rfl) rfl H)
theorem g_pow:X.G 0 = some (.pi .u64 [1,10,100,1000,10000,100000,1000000,10000000,100000000,1000000000,10000000000,100000000000,1000000000000,10000000000000,100000000000000,1000000000000000,10000000000000000,100000000000000000,1000000000000000000,10000000000000000000]):=rfl
theorem numD_code (x:Nat) (hx:0 < x) (h64:x < 18446744073709551616):∃ code,Tryz.f79.body = some code ∧
    Tells (Rets fun fr H=>getF fr 2 = .int .i64 (ndN x:Nat)) X (evT X) 79 0 code [(0,.int .u64 (x:Nat))] []:=by
  refine ⟨_,rfl,?_⟩
  obtain ⟨n,hb,hL⟩:=len64_ev (H:=[]) h64
  have hlog:=log_ev (H:=[]) (n:=n) (by have:=hb.1;omega)
  obtain ⟨h19,hnd⟩:=nd_of hx hb
  obtain ⟨t,ht⟩:∃ t,t = n * 78913 / 2 ^ 18:=⟨_,rfl⟩
  rw [← ht] at hlog h19 hnd
  have hp:=pow10_at ⟨t,by omega⟩
  simp only at hp
  have t20:(t:Int) < 20:=by omega
  have t20N:t < 20:=by omega
  apply Tells.seq (fr':=[(0,.int .u64 (x:Nat))]) (H':=[])
  · (refine ⟨0,?_⟩;simp (maxSteps:=2000000) -implicitDefEqProofs [-getElem?_pos,go_sem,eqV,plen])
  apply Tells.seq (fr':=[(0,.int .u64 (x:Nat)),(3,.int .i64 (t:Nat))]) (H':=[])
  · (refine ⟨0,?_⟩;simp (maxSteps:=2000000) -implicitDefEqProofs [-getElem?_pos,go_sem,eqV,plen,hL,hlog])
  refine Tells.of (o:=⟨.ret,[(2,.int .i64 (ndN x:Nat))],[]⟩) ⟨0,?_⟩ ⟨rfl,rfl⟩
  have hB:=fun b=>b2_ev (H:=[]) b
  generalize hP:10 ^ t = P at *
  by_cases hc:P≤x
  · have hcI:(P:Int)≤(x:Int):=by omega
    have w1:IntKind.i64.wrap ((t:Int) + 1) = ((ndN x:Nat):Int):=by rw [wrap_i64 (by omega) (by omega),hnd,if_pos hc];omega
    generalize ndN x = N at *
    simp (maxSteps:=2000000) -implicitDefEqProofs [-getElem?_pos,go_sem,eqV,plen,g_pow,hp,t20,t20N,hc,hcI,hB,w1]
  · have hcI:¬ ((P:Int)≤(x:Int)):=by omega
    have w1:IntKind.i64.wrap ((t:Int) + 0) = ((ndN x:Nat):Int):=by rw [wrap_i64 (by omega) (by omega),hnd,if_neg hc];omega
    have w1':IntKind.i64.wrap (t:Int) = ((ndN x:Nat):Int):=by rw [wrap_i64 (by omega) (by omega),hnd,if_neg hc];omega
    generalize ndN x = N at *
    simp (maxSteps:=2000000) -implicitDefEqProofs [-getElem?_pos,go_sem,eqV,plen,g_pow,hp,t20,t20N,hc,hcI,hB,w1,w1']
theorem numD_ev {H:AM.Heap} {x:Nat} (hx:0 < x) (h64:x < 18446744073709551616):ndN x≤20∧evT X 79 [.int .u64 (x:Nat)] H = some (.int .i64 (ndN x:Nat),H):=by
  obtain ⟨n,hb,hL⟩:=len64_ev (H:=[]) h64
  obtain ⟨h19,hnd⟩:=nd_of hx hb
  refine ⟨by rw [hnd];split <;> omega,?_⟩
  obtain ⟨code,hcode,o,⟨he,h4⟩,hr⟩:=numD_code x hx h64
  exact evT_eq (Ev1.toldP (l:=[.int .i64 (ndN x:Nat)]) (evT_below X) Tryz.func79 hcode (args_flat (i:=0) rfl rfl (args_nil 1)) rfl (by simp [gtag]) rfl rfl rfl ⟨o,⟨he,by show some [getF o.fr 2] = _;rw [h4]⟩,hr⟩)
end Go.Proofs.YtafdnpcamepbmaaGreatDoor
