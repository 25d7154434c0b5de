/- QI to QP: texts of this claim, one behind the other; what each shows stands at its head. -/
import Derived.Test.YteblpjhkgdpchaaMg5
set_option linter.unusedSimpArgs false
set_option linter.unusedVariables false
set_option maxRecDepth 100000
set_option maxHeartbeats 8000000
namespace Go.Proofs.Yteblpjhkgdpchaa
open Go.AM
def rlB (s:Nat):Nat × Nat:=if s = 285 then (258,0) else if s < 265 then (s - 254,0) else (3 + (4 + (s - 261) % 4) * 2 ^ ((s - 261) / 4),(s - 261) / 4)
def rdB (s:Nat):Nat × Nat:=if s < 4 then (s + 1,0) else (1 + (2 + s % 2) * 2 ^ ((s - 2) / 2),(s - 2) / 2)
theorem Qb:(List.range 29).all (fun k=>xO X (fun _ _ _=>none) 300 ⟨42,[.int .i64 ((257 + k:Nat):Int)],.tup [.int .i64 ((rlB (257 + k)).1:Nat),.int .i64 ((rlB (257 + k)).2:Nat)],[]⟩) = true:=by kernel_rfl
theorem Qc:(List.range 30).all (fun k=>xO X (fun _ _ _=>none) 300 ⟨44,[.int .i64 ((k:Nat):Int)],.tup [.int .i64 ((rdB k).1:Nat),.int .i64 ((rdB k).2:Nat)],[]⟩) = true:=by kernel_rfl
theorem MI {H:AM.Heap} {s:Nat} (h:257≤s) (h2:s≤285):evT X 42 [.int .i64 (s:Nat)] H = some (.tup [.int .i64 ((rlB s).1:Nat),.int .i64 ((rlB s).2:Nat)],H):=by
  obtain ⟨k,rfl⟩:∃ k,s = 257 + k:=⟨s - 257,by omega⟩
  have:=eH (Ev1.tried (T:=fun _ _ _=>none) Below.none (List.all_eq_true.1 Qb k (List.mem_range.2 (by omega))) H)
  simpa only [dX,ren,dN,kU,List.map_nil,List.append_nil] using this
theorem MJ {H:AM.Heap} {s:Nat} (h:s≤29):evT X 44 [.int .i64 (s:Nat)] H = some (.tup [.int .i64 ((rdB s).1:Nat),.int .i64 ((rdB s).2:Nat)],H):=by
  have:=eH (Ev1.tried (T:=fun _ _ _=>none) Below.none (List.all_eq_true.1 Qc s (List.mem_range.2 (by omega))) H)
  simpa only [dX,ren,dN,kU,List.map_nil,List.append_nil] using this
def rlL (n:Nat):Nat→Nat→Nat→Nat
  | 0,_,s=>s
  | f + 1,k,s=>rlL n f (k + 1) (if (rlB k).1≤n then k else s)
def rdL (n:Nat):Nat→Nat→Nat→Nat
  | 0,_,s=>s
  | f + 1,k,s=>rdL n f (k + 1) (if (rdB k).1≤n then k else s)
def tV (n s k:Nat):AM.Frame:=[(0,.int .i64 (n:Nat)),(3,.int .i64 (s:Nat)),(4,.int .i64 (k:Nat))]
theorem UQ:∀ s,s < 286→(rlB s).1≤100000:=by decide +kernel
theorem Eb {m n:Nat} {E:AM.Heap} (hn:n < 258):∃ code,Try.f41.body = some code ∧
    au (fun o=>o = ⟨.ret,[(2,.int .i64 (rlL n 27 258 257:Nat))],E⟩) X (evT X) 41 m code [(0,.int .i64 (n:Nat))] E:=by
  refine ⟨_,rfl,?_⟩
  have h1:¬ n = 258:=by omega
  have h1I:¬ (n:Int) = 258:=by omega
  have h1b:((n:Int) == 258) = false:=by simpa using h1I
  apply au.seq (fr':=[(0,.int .i64 (n:Nat))]) (H':=E)
  · (refine ⟨0,?_⟩;simp (maxSteps:=2000000) -implicitDefEqProofs [-getElem?_pos,go_sem,eqV,aj])
  apply au.assoc
  apply au.seq (fr':=[(0,.int .i64 (n:Nat)),(8,.bool false)]) (H':=E)
  · (refine ⟨0,?_⟩;simp (maxSteps:=2000000) -implicitDefEqProofs [-getElem?_pos,go_sem,eqV,aj,h1,h1I,h1b])
  apply au.seq (fr':=[(0,.int .i64 (n:Nat)),(8,.bool false)]) (H':=E)
  · exact Run.cond (d:=false) (by simp [aK,aI]) ⟨0,rfl⟩
  apply au.seq (fr':=[(0,.int .i64 (n:Nat)),(3,.int .i64 257)]) (H':=E)
  · (refine ⟨0,?_⟩;simp (maxSteps:=2000000) -implicitDefEqProofs [-getElem?_pos,go_sem,eqV,aj])
  apply au.assoc
  apply au.seq (fr':=tV n 257 258) (H':=E)
  · simp only [tV]
    (refine ⟨0,?_⟩;simp (maxSteps:=2000000) -implicitDefEqProofs [-getElem?_pos,go_sem,eqV,aj])
  apply au.andThen (P:=fun fr H=>∃ k,fr = tV n (rlL n 27 258 257) k ++ [(10,.bool false)]∧H = E)
  · apply au.block
    refine au.loop (σ:=Nat × Nat) (fun t=>258≤t.1∧t.1≤285∧rlL n (285 - t.1) t.1 t.2 = rlL n 27 258 257) (fun t=>tV n t.2 t.1) (fun _=>E) (fun t=>285 - t.1) ?_ (258,257) ⟨by simp,by simp,rfl⟩
    rintro ⟨k,s⟩ ⟨hk0,hk,he⟩
    simp only at hk0 hk he ⊢
    by_cases hc:k = 285
    · right
      subst hc
      rw [Nat.sub_self,rlL] at he
      refine ⟨⟨.exit 0,tV n s 285 ++ [(10,.bool false)],E⟩,⟨rfl,285,by rw [← he],rfl⟩,by simp,?_⟩
      refine ⟨0,?_⟩
      simp only [tV]
      simp (maxSteps:=2000000) -implicitDefEqProofs [-getElem?_pos,go_sem,eqV,aj]
    · left
      obtain ⟨g,hg⟩:∃ g,285 - k = g + 1:=⟨284 - k,by omega⟩
      rw [hg,rlL] at he
      refine ⟨(k + 1,if (rlB k).1≤n then k else s),⟨by simp only;omega,by simp only;omega,?_⟩,?_,by simp only;omega⟩
      · simp only
        rw [show 285 - (k + 1) = g by omega]
        exact he
      · have hkI:(k:Int)≤284:=by omega
        have hkN:k≤284:=by omega
        have w1:IntKind.i64.wrap ((k:Int) + 1) = ((k + 1:Nat):Int):=by rw [wrap_i64 (by omega) (by omega)];omega
        have hL:=MI (H:=E) (s:=k) (by omega) (by omega)
        have hle:=UQ k (by omega)
        clear he
        generalize rlB k = R at *
        obtain ⟨x,y⟩:=R
        simp only at hL hle ⊢
        by_cases hx:x≤n
        · have hxI:(x:Int)≤(n:Int):=by omega
          rw [if_pos hx]
          generalize k + 1 = k1 at *
          simp only [tV]
          (refine ⟨0,?_⟩;simp (maxSteps:=2000000) -implicitDefEqProofs [-getElem?_pos,go_sem,eqV,aj,hkI,hkN,w1,hL,hx,hxI,aC])
        · have hxI:¬ (x:Int)≤(n:Int):=by omega
          rw [if_neg hx]
          generalize k + 1 = k1 at *
          simp only [tV]
          (refine ⟨0,?_⟩;simp (maxSteps:=2000000) -implicitDefEqProofs [-getElem?_pos,go_sem,eqV,aj,hkI,hkN,w1,hL,hx,hxI,aC])
  rintro fr H ⟨k,rfl,rfl⟩
  generalize rlL n 27 258 257 = s at *
  refine au.of (o:=⟨.ret,[(2,.int .i64 (s:Nat))],H⟩) ?_ rfl
  refine ⟨0,?_⟩
  simp only [tV]
  simp (maxSteps:=2000000) -implicitDefEqProofs [-getElem?_pos,go_sem,eqV,aj,aC]
theorem GH {m:Nat} {E:AM.Heap}:∃ code,Try.f41.body = some code ∧
    au (fun o=>o = ⟨.ret,[(2,.int .i64 285)],E⟩) X (evT X) 41 m code [(0,.int .i64 258)] E:=by
  refine ⟨_,rfl,?_⟩
  refine au.of (o:=⟨.ret,[(2,.int .i64 285)],E⟩) ?_ rfl
  refine ⟨0,?_⟩
  simp (maxSteps:=2000000) -implicitDefEqProofs [-getElem?_pos,go_sem,eqV,aj]
theorem UR:∀ n,n < 258→3≤n→rlL n 27 258 257 = (lenOf n).1:=by decide +kernel
theorem Js {H:AM.Heap} {n:Nat} (h3:3≤n) (hn:n≤258):evT X 41 [.int .i64 (n:Nat)] H = some (.int .i64 ((lenOf n).1:Nat),H):=by
  have hx:=iM (C:=X) (f:=41) (i:=0) (a:=.int .i64 (n:Nat)) (H:=H) rfl rfl (dQ 1)
  by_cases h:n = 258
  · subst h
    obtain ⟨code,hc,o,rfl,hr⟩:=GH (m:=0) (E:=[])
    refine eH (Ev1.pR (l:=[.int .i64 ((lenOf 258).1:Nat)]) (bJ X) Try.func41 hc hx rfl (by simp [dJ]) rfl rfl rfl ?_)
    rw [TA]
    exact ⟨_,⟨rfl,rfl⟩,hr⟩
  · obtain ⟨code,hc,o,rfl,hr⟩:=Eb (m:=0) (n:=n) (E:=[]) (by omega)
    rw [UR n (by omega) h3] at hr
    refine eH (Ev1.pR (l:=[.int .i64 ((lenOf n).1:Nat)]) (bJ X) Try.func41 hc hx rfl (by simp [dJ]) rfl rfl rfl ?_)
    rw [TA]
    exact ⟨_,⟨rfl,rfl⟩,hr⟩
theorem Oe:∀ n,n < 259→3≤n→rlB (lenOf n).1 = ((lenOf n).2.1,(lenOf n).2.2):=by decide +kernel
theorem Sj {H:AM.Heap} {n:Nat} (h3:3≤n) (hn:n≤258):evT X 42 [.int .i64 ((lenOf n).1:Nat)] H = some (.tup [.int .i64 ((lenOf n).2.1:Nat),.int .i64 ((lenOf n).2.2:Nat)],H):=by
  obtain ⟨a1,a2,a3,a4,a5⟩:=pV n (by omega) h3
  have:=MI (H:=H) (s:=(lenOf n).1) (by omega) (by omega)
  rwa [Oe n (by omega) h3] at this
end Go.Proofs.Yteblpjhkgdpchaa
namespace Go.Proofs.Yteblpjhkgdpchaa
open Go.AM
theorem Qd:∀ a,a < 30→∀ b,b < 30→a≤b→(rdB a).1≤(rdB b).1:=by decide +kernel
theorem Qe {n s:Nat} (h:(rdB s).1≤n) (hs:s≤29) (h2:s < 29→n < (rdB (s + 1)).1):∀ (f k s0:Nat),k + f = 30→(s < k→s0 = s)→rdL n f k s0 = s
  | 0,k,s0,hk,h0=>h0 (by omega)
  | f + 1,k,s0,hk,h0=>by
    unfold rdL
    refine Qe h hs h2 f (k + 1) _ (by omega) fun hlt=>?_
    by_cases he:s = k
    · subst he
      rw [if_pos h]
    · have hn:n < (rdB k).1:=Nat.lt_of_lt_of_le (h2 (by omega)) (Qd (s + 1) (by omega) k (by omega) (by omega))
      rw [if_neg (by omega)]
      exact h0 (by omega)
theorem EX {n:Nat} (h1:1≤n) (h:n≤32768):rdB (bU n).1 = ((bU n).2.1,(bU n).2.2)∧((bU n).1 < 29→n < (rdB ((bU n).1 + 1)).1):=by
  by_cases h4:n≤4
  · have:∀ n,n < 5→1≤n→rdB (bU n).1 = ((bU n).2.1,(bU n).2.2)∧((bU n).1 < 29→n < (rdB ((bU n).1 + 1)).1):=by decide +kernel
    exact this n (by omega) h1
  · have hf:=lu h1 h
    unfold bU at hf ⊢
    rw [if_neg h4] at hf ⊢
    obtain ⟨b,j,hj,he⟩:=yc (n:=n) (f:=40) (bits:=1) (j:=0) (by omega) (Fv h)
    have he':gF 2 n 40 4 5 1 0 = (2 * b + 2 + j,(2 + j) * 2 ^ b + 1,b):=he
    rw [he'] at hf ⊢
    simp only at hf ⊢
    obtain ⟨f1,f2,f3,f4⟩:=hf
    constructor
    · unfold rdB
      by_cases hb:b = 0
      · subst hb
        rw [if_pos (by omega)]
        simp
      · rw [if_neg (by omega),show (2 * b + 2 + j - 2) / 2 = b by omega,show (2 * b + 2 + j) % 2 = j by omega,Nat.add_comm]
    · intro _
      refine Nat.lt_of_lt_of_le f3 ?_
      have hcase:j = 0∨j = 1:=by omega
      rcases hcase with rfl | rfl
      · by_cases hb:b = 0
        · subst hb;decide
        · unfold rdB
          rw [if_neg (by omega),show (2 * b + 2 + 0 + 1 - 2) / 2 = b by omega,show (2 * b + 2 + 0 + 1) % 2 = 1 by omega]
          simp only
          omega
      · unfold rdB
        rw [if_neg (by omega),show (2 * b + 2 + 1 + 1 - 2) / 2 = b + 1 by omega,show (2 * b + 2 + 1 + 1) % 2 = 0 by omega,Nat.pow_succ]
        simp only
        omega
theorem AZ {m n:Nat} {E:AM.Heap}:∃ code,Try.f43.body = some code ∧
    au (fun o=>o = ⟨.ret,[(2,.int .i64 (rdL n 29 1 0:Nat))],E⟩) X (evT X) 43 m code [(0,.int .i64 (n:Nat))] E:=by
  refine ⟨_,rfl,?_⟩
  apply au.seq (fr':=[(0,.int .i64 (n:Nat))]) (H':=E)
  · (refine ⟨0,?_⟩;simp (maxSteps:=2000000) -implicitDefEqProofs [-getElem?_pos,go_sem,eqV,aj])
  apply au.seq (fr':=[(0,.int .i64 (n:Nat)),(3,.int .i64 0)]) (H':=E)
  · (refine ⟨0,?_⟩;simp (maxSteps:=2000000) -implicitDefEqProofs [-getElem?_pos,go_sem,eqV,aj])
  apply au.assoc
  apply au.seq (fr':=tV n 0 1) (H':=E)
  · simp only [tV]
    (refine ⟨0,?_⟩;simp (maxSteps:=2000000) -implicitDefEqProofs [-getElem?_pos,go_sem,eqV,aj])
  apply au.andThen (P:=fun fr H=>∃ k,fr = tV n (rdL n 29 1 0) k ++ [(8,.bool false)]∧H = E)
  · apply au.block
    refine au.loop (σ:=Nat × Nat) (fun t=>t.1≤30∧rdL n (30 - t.1) t.1 t.2 = rdL n 29 1 0) (fun t=>tV n t.2 t.1) (fun _=>E) (fun t=>30 - t.1) ?_ (1,0) ⟨by simp,rfl⟩
    rintro ⟨k,s⟩ ⟨hk,he⟩
    simp only at hk he ⊢
    by_cases hc:k = 30
    · right
      subst hc
      rw [Nat.sub_self,rdL] at he
      refine ⟨⟨.exit 0,tV n s 30 ++ [(8,.bool false)],E⟩,⟨rfl,30,by rw [← he],rfl⟩,by simp,?_⟩
      refine ⟨0,?_⟩
      simp only [tV]
      simp (maxSteps:=2000000) -implicitDefEqProofs [-getElem?_pos,go_sem,eqV,aj]
    · left
      obtain ⟨g,hg⟩:∃ g,30 - k = g + 1:=⟨29 - k,by omega⟩
      rw [hg,rdL] at he
      refine ⟨(k + 1,if (rdB k).1≤n then k else s),⟨by simp only;omega,?_⟩,?_,by simp only;omega⟩
      · simp only
        rw [show 30 - (k + 1) = g by omega]
        exact he
      · have hkI:(k:Int)≤29:=by omega
        have hkN:k≤29:=by omega
        have w1:IntKind.i64.wrap ((k:Int) + 1) = ((k + 1:Nat):Int):=by rw [wrap_i64 (by omega) (by omega)];omega
        have hL:=MJ (H:=E) (s:=k) (by omega)
        clear he
        generalize rdB k = R at *
        obtain ⟨x,y⟩:=R
        simp only at hL ⊢
        by_cases hx:x≤n
        · have hxI:(x:Int)≤(n:Int):=by omega
          rw [if_pos hx]
          generalize k + 1 = k1 at *
          simp only [tV]
          (refine ⟨0,?_⟩;simp (maxSteps:=2000000) -implicitDefEqProofs [-getElem?_pos,go_sem,eqV,aj,hkI,hkN,w1,hL,hx,hxI,aC])
        · have hxI:¬ (x:Int)≤(n:Int):=by omega
          rw [if_neg hx]
          generalize k + 1 = k1 at *
          simp only [tV]
          (refine ⟨0,?_⟩;simp (maxSteps:=2000000) -implicitDefEqProofs [-getElem?_pos,go_sem,eqV,aj,hkI,hkN,w1,hL,hx,hxI,aC])
  rintro fr H ⟨k,rfl,rfl⟩
  generalize rdL n 29 1 0 = s at *
  refine au.of (o:=⟨.ret,[(2,.int .i64 (s:Nat))],H⟩) ?_ rfl
  refine ⟨0,?_⟩
  simp only [tV]
  simp (maxSteps:=2000000) -implicitDefEqProofs [-getElem?_pos,go_sem,eqV,aj,aC]
theorem Ec {H:AM.Heap} {n:Nat} (h1:1≤n) (hn:n≤32768):evT X 43 [.int .i64 (n:Nat)] H = some (.int .i64 ((bU n).1:Nat),H):=by
  have hx:=iM (C:=X) (f:=43) (i:=0) (a:=.int .i64 (n:Nat)) (H:=H) rfl rfl (dQ 1)
  obtain ⟨code,hc,o,rfl,hr⟩:=AZ (m:=0) (n:=n) (E:=[])
  obtain ⟨d1,d2⟩:=EX h1 hn
  obtain ⟨f1,f2,f3,f4⟩:=lu h1 hn
  rw [Qe (s:=(bU n).1) (by rw [d1];exact f2) (by omega) d2 29 1 0 rfl (fun h=>by omega)] at hr
  refine eH (Ev1.pR (l:=[.int .i64 ((bU n).1:Nat)]) (bJ X) Try.func43 hc hx rfl (by simp [dJ]) rfl rfl rfl ?_)
  rw [WV]
  exact ⟨_,⟨rfl,rfl⟩,hr⟩
theorem Sl {H:AM.Heap} {n:Nat} (h1:1≤n) (hn:n≤32768):evT X 44 [.int .i64 ((bU n).1:Nat)] H = some (.tup [.int .i64 ((bU n).2.1:Nat),.int .i64 ((bU n).2.2:Nat)],H):=by
  obtain ⟨f1,f2,f3,f4⟩:=lu h1 hn
  have:=MJ (H:=H) (s:=(bU n).1) f1
  rwa [(EX h1 hn).1] at this
end Go.Proofs.Yteblpjhkgdpchaa
namespace Go.Proofs.Yteblpjhkgdpchaa
open Go.AM
theorem Og (x:Px):∃ code,Try.f53.body = some code∧au (nY fun fr H=>aI fr 2 = .bool (kS x)) X (evT X) 53 0 code [(0,.agg (pxR x))] []:=by
  refine ⟨_,rfl,?_⟩
  simp only [pxR]
  apply au.seq (fr':=[(1,.ptr 0 0 0 0)]) (H':=[some (⟨.pc [.int .i64 x.len,.int .i64 x.dist,.int .u8 (x.byte.toNat:Nat)],0,some 3,1,false,true,0⟩:AM.Obj)])
  · (refine ⟨0,?_⟩;simp (maxSteps:=2000000) -implicitDefEqProofs [-getElem?_pos,go_sem,eqV,aj])
  unfold kS
  by_cases h0:x.len = 0
  · rw [if_pos h0,h0]
    refine au.of (o:=⟨.ret,[(2,.bool (decide (x.dist = 0)))],[some (⟨.pc [.int .i64 0,.int .i64 x.dist,.int .u8 (x.byte.toNat:Nat)],0,some 3,1,false,true,0⟩:AM.Obj)]⟩) ?_ ⟨rfl,rfl⟩
    refine ⟨0,?_⟩
    by_cases h1:x.dist = 0
    · rw [decide_eq_true h1,h1]
      simp (maxSteps:=2000000) -implicitDefEqProofs [-getElem?_pos,go_sem,eqV,aj]
    · have h1b:(x.dist == 0) = false:=by simpa using h1
      rw [decide_eq_false h1]
      simp (maxSteps:=2000000) -implicitDefEqProofs [-getElem?_pos,go_sem,eqV,aj,h1,h1b]
  · rw [if_neg h0]
    have h0b:(x.len == 0) = false:=by simpa using h0
    refine au.of (o:=⟨.ret,[(2,.bool (decide (3≤x.len) && (decide (x.len≤258) && (decide (1≤x.dist) && (decide (x.dist≤32768) && decide (x.byte = 0))))))],[some (⟨.pc [.int .i64 x.len,.int .i64 x.dist,.int .u8 (x.byte.toNat:Nat)],0,some 3,1,false,true,0⟩:AM.Obj)]⟩) ?_ ⟨rfl,rfl⟩
    refine ⟨0,?_⟩
    by_cases h1:3≤x.len
    · rw [decide_eq_true h1]
      by_cases h2:x.len≤258
      · rw [decide_eq_true h2]
        by_cases h3:1≤x.dist
        · rw [decide_eq_true h3]
          by_cases h4:x.dist≤32768
          · rw [decide_eq_true h4]
            by_cases h5:x.byte = 0
            · rw [decide_eq_true h5,h5]
              simp (maxSteps:=2000000) -implicitDefEqProofs [-getElem?_pos,go_sem,eqV,aj,h0,h0b,h1,h2,h3,h4]
            · have h5N:¬ x.byte.toNat = 0:=fun h=>h5 (UInt8.toNat_inj.1 h)
              have h5b:((x.byte.toNat:Int) == 0) = false:=by simpa using h5N
              have h5I:¬ (x.byte.toNat:Int) = 0:=by omega
              rw [decide_eq_false h5]
              simp (maxSteps:=2000000) -implicitDefEqProofs [-getElem?_pos,go_sem,eqV,aj,h0,h0b,h1,h2,h3,h4,h5N,h5b,h5I]
          · rw [decide_eq_false h4]
            simp (maxSteps:=2000000) -implicitDefEqProofs [-getElem?_pos,go_sem,eqV,aj,h0,h0b,h1,h2,h3,h4]
        · rw [decide_eq_false h3]
          simp (maxSteps:=2000000) -implicitDefEqProofs [-getElem?_pos,go_sem,eqV,aj,h0,h0b,h1,h2,h3]
      · rw [decide_eq_false h2]
        simp (maxSteps:=2000000) -implicitDefEqProofs [-getElem?_pos,go_sem,eqV,aj,h0,h0b,h1,h2]
    · rw [decide_eq_false h1]
      simp (maxSteps:=2000000) -implicitDefEqProofs [-getElem?_pos,go_sem,eqV,aj,h0,h0b,h1]
theorem Sm (H:AM.Heap) (x:Px):evT X 53 [.agg (pxR x)] H = some (.bool (kS x),H):=by
  obtain ⟨code,hc,⟨out,⟨ho,h2⟩,hr⟩⟩:=Og x
  have hl:aO X 53 H 0 [.agg (pxR x)] = some ([.agg (pxR x)],[⟨[],[]⟩]):=by
    have hrw:X.rw 53 0 = false:=rfl
    simp [aO,hrw,fU,iP,eY,pxR,tags]
  refine eH (Ev1.pR (l:=[.bool (kS x)]) (bJ X) Try.func53 hc hl rfl (by simp [dJ]) rfl rfl rfl ?_)
  rw [WW]
  refine ⟨out,⟨ho,?_⟩,hr⟩
  show some [aI out.fr 2] = _
  rw [h2]
section
variable {c:Nat} {l:List Px}
def gW (v:AV) (c:Nat) (l:List Px) (i:Nat):AM.Frame:=[(0,.ro c (.pr 3 (l.map pxR)) 1),(4,v),(5,.int .i64 (i:Nat))]
def tX (v:AV) (c:Nat) (l:List Px) (i j:Nat):AM.Frame:=[(0,.ro c (.pr 3 (l.map pxR)) 1),(4,v),(5,.int .i64 (i:Nat)),(6,.int .i64 (j:Nat))]
theorem tC {i:Nat} {x:Px} (hx:l[i]? = some x):(l.map pxR)[i]? = some (pxR x)∧i < (l.map pxR).length∧(i:Int) < ((l.map pxR).length:Int):=by
  have:=iF hx
  refine ⟨by rw [List.getElem?_map,hx];rfl,by simp;omega,by simp;omega⟩
theorem Xe {m i:Nat} {x:Px} {v:AV} {tl:AM.Frame} {E:AM.Heap} (hx:l[i]? = some x):∃ code,((Try.f36.body).bind (aS [1,1,0,1,0,0,1,0,0,0,0])) = some code∧Run X (evT X) 36 m code (gW v c l i ++ tl) E ⟨.normal,gW v c l i ++ [(18,.bool (!kS x))],E⟩:=by
  refine ⟨_,rfl,?_⟩
  have hM:=Sm E x
  obtain ⟨h1,h2,h3⟩:=tC hx
  generalize kS x = d at *
  simp only [gW,pxR] at h1 hM ⊢
  generalize l.map pxR = R at *
  generalize hN:R.length = N at *
  cases d <;> (refine ⟨0,?_⟩;simp (maxSteps:=2000000) -implicitDefEqProofs [-getElem?_pos,go_sem,eqV,aj,h1,h2,h3,hN,hM,Q5,jI,retag])
theorem Xf {m i:Nat} {x:Px} {v:AV} {tl:AM.Frame} {E:AM.Heap} (hx:l[i]? = some x):∃ code,((Try.f36.body).bind (aS [1,1,0,1,0,0,1,0,0,1,0,0])) = some code∧Run X (evT X) 36 m code (gW v c l i ++ tl) E ⟨.normal,gW v c l i ++ [(24,.bool (decide (x.len = 0)))],E⟩:=by
  refine ⟨_,rfl,?_⟩
  obtain ⟨h1,h2,h3⟩:=tC hx
  simp only [gW,pxR] at h1 ⊢
  generalize l.map pxR = R at *
  generalize hN:R.length = N at *
  by_cases h:x.len = 0
  · have hb:(x.len == 0) = true:=by simpa using h
    rw [decide_eq_true h]
    (refine ⟨0,?_⟩;simp (maxSteps:=2000000) -implicitDefEqProofs [-getElem?_pos,go_sem,eqV,aj,h1,h2,h3,hN,h,hb])
  · have hb:(x.len == 0) = false:=by simpa using h
    rw [decide_eq_false h]
    (refine ⟨0,?_⟩;simp (maxSteps:=2000000) -implicitDefEqProofs [-getElem?_pos,go_sem,eqV,aj,h1,h2,h3,hN,h,hb])
theorem Xg {m i N g:Nat} {x:Px} {v:AV} {E E':AM.Heap} {tl:AM.Frame} (hx:l[i]? = some x) (hA:dV X E 28 v (.ro 1 (.pb [x.byte]) 0) = some (.sl 1 0 N g,E')):∃ code,((Try.f36.body).bind (aS [1,1,0,1,0,0,1,0,0,1,0,1,0,0])) = some code∧Run X (evT X) 36 m code (gW v c l i ++ tl) E ⟨.normal,gW (.sl 1 0 N g) c l i,E'⟩:=by
  refine ⟨_,rfl,?_⟩
  have hbs:=bsW E x.byte
  obtain ⟨h1,h2,h3⟩:=tC hx
  simp only [gW,pxR] at h1 ⊢
  generalize l.map pxR = R at *
  generalize hN:R.length = N2 at *
  (refine ⟨0,?_⟩;simp (maxSteps:=2000000) -implicitDefEqProofs [-getElem?_pos,go_sem,eqV,aj,h1,h2,h3,hN,hbs,hA,aC])
theorem Xh {m i g:Nat} {x:Px} {o:List UInt8} {ob:AM.Obj} {tl:AM.Frame} {E:AM.Heap} (hx:l[i]? = some x) (ho:E[1]? = some (some ob)) (hw:Rw (.pb o) g ob):∃ code,((Try.f36.body).bind (aS [1,1,0,1,0,0,1,0,0,1,1,0,0])) = some code∧Run X (evT X) 36 m code (gW (.sl 1 0 o.length g) c l i ++ tl) E ⟨.normal,gW (.sl 1 0 o.length g) c l i ++ [(40,.bool (decide ((o.length:Int) < x.dist)))],E⟩:=by
  refine ⟨_,rfl,?_⟩
  have hg:=hw.g
  obtain ⟨h1,h2,h3⟩:=tC hx
  simp only [gW,pxR] at h1 ⊢
  generalize l.map pxR = R at *
  generalize hN:R.length = N at *
  generalize o.length = K at *
  by_cases h:(K:Int) < x.dist
  · rw [decide_eq_true h]
    (refine ⟨0,?_⟩;simp (maxSteps:=2000000) -implicitDefEqProofs [-getElem?_pos,go_sem,eqV,aj,h1,h2,h3,hN,ho,hg,h])
  · rw [decide_eq_false h]
    (refine ⟨0,?_⟩;simp (maxSteps:=2000000) -implicitDefEqProofs [-getElem?_pos,go_sem,eqV,aj,h1,h2,h3,hN,ho,hg,h])
theorem UU {m i n j:Nat} {x:Px} {v:AV} {E:AM.Heap} (hx:l[i]? = some x) (hn:x.len = (n:Nat)):∃ code,((Try.f36.body).bind (aS [1,1,0,1,0,0,1,0,0,1,1,1,1,0,0,0,0])) = some code∧Run X (evT X) 36 m code (tX v c l i j) E ⟨.normal,tX v c l i j ++ [(47,.bool (decide (j < n)))],E⟩:=by
  refine ⟨_,rfl,?_⟩
  obtain ⟨h1,h2,h3⟩:=tC hx
  simp only [tX,pxR,hn] at h1 ⊢
  generalize l.map pxR = R at *
  generalize hN:R.length = N at *
  by_cases h:j < n
  · have hI:(j:Int) < (n:Int):=by omega
    rw [decide_eq_true h]
    (refine ⟨0,?_⟩;simp (maxSteps:=2000000) -implicitDefEqProofs [-getElem?_pos,go_sem,eqV,aj,h1,h2,h3,hN,h,hI])
  · have hI:¬ (j:Int) < (n:Int):=by omega
    rw [decide_eq_false h]
    (refine ⟨0,?_⟩;simp (maxSteps:=2000000) -implicitDefEqProofs [-getElem?_pos,go_sem,eqV,aj,h1,h2,h3,hN,h,hI])
theorem UW {m i j g d:Nat} {x:Px} {o:List UInt8} {ob:AM.Obj} {tl:AM.Frame} {E:AM.Heap} (hx:l[i]? = some x) (hd:x.dist = (d:Nat)) (hd1:1≤d) (hd2:d≤o.length) (ho:E[1]? = some (some ob)) (hw:Rw (.pb o) g ob) (hol:o.length≤1000000) :
    ∃ ob',Rw (.pb (o ++ [o.getD (o.length - d) 0])) (g + 1) ob'∧∃ code,((Try.f36.body).bind (aS [1,1,0,1,0,0,1,0,0,1,1,1,1,0,0,1,0,0])) = some code∧Run X (evT X) 36 m code (tX (.sl 1 0 o.length g) c l i j ++ tl) E ⟨.normal,tX (.sl 1 0 (o.length + 1) (g + 1)) c l i j,upd E 1 (some ob')⟩:=by
  have hy:o[o.length - d]? = some (o.getD (o.length - d) 0):=by
    rw [List.getD_eq_getElem?_getD,List.getElem?_eq_getElem (by omega)];rfl
  generalize o.getD (o.length - d) 0 = y at *
  obtain ⟨ob',w1,w2⟩:=zq (C:=X) (T:=28) (e:=5) (H:=E) (o:=1) (m:=[y]) (src:=.ro 1 (.pb [y]) 0) uf BA ug bytes5 BD ho hw (.inl (by simp [kD,oM,qO])) (by simp;omega)
  refine ⟨ob',w1,_,rfl,?_⟩
  have hbs:=bsW E y
  obtain ⟨h1,h2,h3⟩:=tC hx
  have q1:=hw.p;have q2:=hw.g;have q4:=hw.ids;have q5:=hw.tg
  have w3:IntKind.i64.wrap ((o.length:Int) - (d:Int)) = ((o.length - d:Nat):Int):=by rw [wrap_i64 (by omega) (by omega)];omega
  have hlt:o.length - d < o.length:=by omega
  have jB:((o.length - d:Nat):Int) < (o.length:Int):=by omega
  simp only [List.length_singleton] at w2
  simp only [tX,pxR,hd] at h1 ⊢
  generalize l.map pxR = R at *
  generalize hN:R.length = N at *
  generalize o.length - d = kd at *
  generalize hK:o.length = K at *
  generalize K + 1 = K1 at *
  (refine ⟨0,?_⟩;simp (maxSteps:=2000000) -implicitDefEqProofs [-getElem?_pos,go_sem,eqV,aj,h1,h2,h3,hN,ho,q1,q2,q4,q5,w3,hy,hlt,jB,hbs,w2,hK,aC])
end
end Go.Proofs.Yteblpjhkgdpchaa
namespace Go.Proofs.Yteblpjhkgdpchaa
open Go.AM
section
variable {c:Nat} {l:List Px}
theorem Sr {m i n g d:Nat} {x:Px} {o:List UInt8} {ob:AM.Obj} {E:AM.Heap} (hx:l[i]? = some x) (hn:x.len = (n:Nat)) (hd:x.dist = (d:Nat)) (hd1:1≤d) (hd2:d≤o.length) (ho:E[1]? = some (some ob)) (hw:Rw (.pb o) g ob) (hol:o.length + n≤1000000) :
    ∃ code,((Try.f36.body).bind (aS [1,1,0,1,0,0,1,0,0,1,1,1,1])) = some code∧au (Goes fun fr E'=>∃ g' ob',bZ [0,4,5] fr = gW (.sl 1 0 (jF d n o).length g') c l i∧E'[1]? = some (some ob')∧Rw (.pb (jF d n o)) g' ob') X (evT X) 36 m code (tX (.sl 1 0 o.length g) c l i 0) E:=by
  refine ⟨_,rfl,?_⟩
  apply au.block
  refine au.lJ (I:=fun k fr E'=>∃ j o' g' ob',j≤n∧k = n - j∧fr = tX (.sl 1 0 o'.length g') c l i j∧E'[1]? = some (some ob')∧Rw (.pb o') g' ob'∧o'.length = o.length + j∧jF d (n - j) o' = jF d n o) ?_ (k:=n) ⟨0,o,g,ob,by omega,rfl,rfl,ho,hw,rfl,rfl⟩
  rintro k fr E' ⟨j,o',g',ob',hj,rfl,rfl,ho',hw',hlen,hc⟩
  have h12:=UU (m:=m) (c:=c) (j:=j) (v:=.sl 1 0 o'.length g') (E:=E') hx hn
  by_cases hjn:j = n
  · subst hjn
    rw [Nat.sub_self] at hc
    rw [decide_eq_false (by omega)] at h12
    refine au.of (o:=⟨.exit 2,tX (.sl 1 0 o'.length g') c l i j ++ [(47,.bool false)],E'⟩) ?_ (.inr ⟨by simp,rfl,g',ob',by rw [← hc];simp [tX,gW,bZ,aI,jF],ho',by rw [← hc];exact hw'⟩)
    refine Run.bH ?_ (by simp)
    apply Run.seq (piece h12 _ rfl)
    exact Run.cond (d:=false) (by simp [tX,aK,aI]) ⟨0,rfl⟩
  · have hlt:j < n:=by omega
    rw [decide_eq_true hlt] at h12
    obtain ⟨ob2,w1,hr⟩:=UW (m:=m) (c:=c) (j:=j) (tl:=[(47,.bool true)]) hx hd hd1 (by omega) ho' hw' (by omega)
    have hn1:n - j = (n - (j + 1)) + 1:=by omega
    rw [hn1,jF] at hc
    refine au.of (o:=⟨.normal,tX (.sl 1 0 (o'.length + 1) (g' + 1)) c l i (j + 1),upd E' 1 (some ob2)⟩) ?_ (.inl ⟨rfl,n - (j + 1),by omega,j + 1,o' ++ [o'.getD (o'.length - d) 0],g' + 1,ob2,by omega,rfl,by simp,setAt ho',w1,by simp;omega,hc⟩)
    apply Run.seq (fr':=tX (.sl 1 0 o'.length g') c l i j ++ [(47,.bool true)]) (H':=E')
    · apply Run.seq (piece h12 _ rfl)
      exact Run.cond (d:=true) (by simp [tX,aK,aI]) ⟨0,rfl⟩
    apply Run.seq (fr':=tX (.sl 1 0 (o'.length + 1) (g' + 1)) c l i j) (H':=upd E' 1 (some ob2))
    · apply Run.block
      · exact piece hr _ rfl
      · simp
    · have w4:IntKind.i64.wrap ((j:Int) + 1) = ((j + 1:Nat):Int):=by
        have:=hw'.g
        rw [wrap_i64 (by omega) (by omega)];omega
      generalize j + 1 = j1 at *
      simp only [tX]
      generalize l.map pxR = R at *
      generalize o'.length + 1 = K at *
      (refine ⟨0,?_⟩;simp (maxSteps:=2000000) -implicitDefEqProofs [-getElem?_pos,go_sem,eqV,aj,w4])
theorem Sv {m i g:Nat} {x:Px} {o:List UInt8} {ob:AM.Obj} {E:AM.Heap} (hx:l[i]? = some x) (hl:l.length≤2000) (ho:E[1]? = some (some ob)) (hw:Rw (.pb o) g ob) (hol:o.length≤258 * i) (he:jY (l.drop i) o = jY l []) :
    ∃ code,((Try.f36.body).bind (aS [1,1,0,1,0,0,1])) = some code∧au (fun out=>(out.ex = .normal∧∃ o' g' ob',out.fr = gW (.sl 1 0 o'.length g') c l (i + 1)∧out.H[1]? = some (some ob')∧Rw (.pb o') g' ob'∧o'.length≤258 * (i + 1)∧jY (l.drop (i + 1)) o' = jY l [])∨(out.ex = .ret∧exX l out.fr out.H)) X (evT X) 36 m code (gW (.sl 1 0 o.length g) c l i ++ [(10,.bool true)]) E:=by
  refine ⟨_,rfl,?_⟩
  have hi:=iF hx
  have hdrop:l.drop i = x :: l.drop (i + 1):=by
    rw [List.drop_eq_getElem_cons hi]
    rw [List.getElem?_eq_getElem hi] at hx
    rw [Option.some.inj hx]
  rw [hdrop,jY] at he
  have hr5:=Xe (m:=m) (c:=c) (v:=.sl 1 0 o.length g) (tl:=[(10,.bool true)]) (E:=E) hx
  have hr7:=Xf (m:=m) (c:=c) (v:=.sl 1 0 o.length g) (tl:=[(18,.bool false)]) (E:=E) hx
  have w1:IntKind.i64.wrap ((i:Int) + 1) = ((i + 1:Nat):Int):=by rw [wrap_i64 (by omega) (by omega)];omega
  by_cases hm:kS x = false
  · rw [if_pos hm] at he
    rw [hm] at hr5
    refine au.of (o:=⟨.ret,[(2,.sl E.length 0 0 0),(3,.int .i64 2)],E ++ [some (⟨.pb [],0,none,0,true,false,0⟩:AM.Obj)]⟩) ?_ (.inr ⟨rfl,[],2,E.length,0,_,he.symm,rfl,rfl,List.getElem?_concat_length,⟨rfl,rfl,rfl,rfl,rfl⟩⟩)
    refine Run.bH ?_ (by simp)
    refine Run.block ?_ (by simp)
    refine Run.bH ?_ (by simp)
    apply Run.seq (piece hr5 _ rfl)
    refine Run.cond (d:=true) (by simp [gW,aK,aI]) ?_
    apply Run.seq (fr':=[(2,.sl E.length 0 0 0),(3,.int .i64 2)]) (H':=E ++ [some (⟨.pb [],0,none,0,true,false,0⟩:AM.Obj)])
    · simp only [gW]
      generalize l.map pxR = R at *
      generalize o.length = K at *
      (refine ⟨0,?_⟩;simp (maxSteps:=2000000) -implicitDefEqProofs [-getElem?_pos,go_sem,eqV,aj,aC,rowOf,AO])
    · exact ⟨0,rfl⟩
  have hmt:kS x = true:=by simpa using hm
  rw [if_neg hm] at he
  rw [hmt] at hr5
  by_cases h0:x.len = 0
  · rw [if_pos h0] at he
    rw [decide_eq_true h0] at hr7
    obtain ⟨ob',k1,k2⟩:=zq (C:=X) (T:=28) (e:=5) (H:=E) (o:=1) (m:=[x.byte]) (src:=.ro 1 (.pb [x.byte]) 0) uf BA ug bytes5 BD ho hw (.inl (by simp [kD,oM,qO])) (by simp;omega)
    simp only [List.length_singleton] at k2
    have hr8:=Xg (m:=m) (c:=c) (tl:=[(24,.bool true)]) hx k2
    refine au.of (o:=⟨.normal,gW (.sl 1 0 (o.length + 1) (g + 1)) c l (i + 1),upd E 1 (some ob')⟩) ?_ (.inl ⟨rfl,o ++ [x.byte],g + 1,ob',by simp,setAt ho,k1,by simp;omega,he⟩)
    apply Run.seq (fr':=gW (.sl 1 0 (o.length + 1) (g + 1)) c l i) (H':=upd E 1 (some ob'))
    · refine Run.fV ?_
      apply Run.seq (fr':=gW (.sl 1 0 o.length g) c l i ++ [(18,.bool false)]) (H':=E)
      · apply Run.seq (piece hr5 _ rfl)
        exact Run.cond (d:=false) (by simp [gW,aK,aI]) ⟨0,rfl⟩
      refine Run.bH ?_ (by simp)
      apply Run.seq (piece hr7 _ rfl)
      refine Run.cond (d:=true) (by simp [gW,aK,aI]) ?_
      exact Run.seq (piece hr8 _ rfl) ⟨0,rfl⟩
    · simp only [gW]
      generalize l.map pxR = R at *
      generalize o.length + 1 = K at *
      generalize i + 1 = i1 at *
      (refine ⟨0,?_⟩;simp (maxSteps:=2000000) -implicitDefEqProofs [-getElem?_pos,go_sem,eqV,aj,w1])
  rw [if_neg h0] at he
  rw [decide_eq_false h0] at hr7
  obtain ⟨n,d,hn,hd,n3,n258,d1⟩:=xY hmt h0
  have hr9:=Xh (m:=m) (c:=c) (tl:=[(24,.bool false)]) hx ho hw
  by_cases hbig:(o.length:Int) < x.dist
  · rw [if_pos hbig] at he
    rw [decide_eq_true hbig] at hr9
    refine au.of (o:=⟨.ret,[(2,.sl E.length 0 0 0),(3,.int .i64 5)],E ++ [some (⟨.pb [],0,none,0,true,false,0⟩:AM.Obj)]⟩) ?_ (.inr ⟨rfl,[],5,E.length,0,_,he.symm,rfl,rfl,List.getElem?_concat_length,⟨rfl,rfl,rfl,rfl,rfl⟩⟩)
    refine Run.bH ?_ (by simp)
    refine Run.block ?_ (by simp)
    apply Run.seq (fr':=gW (.sl 1 0 o.length g) c l i ++ [(18,.bool false)]) (H':=E)
    · apply Run.seq (piece hr5 _ rfl)
      exact Run.cond (d:=false) (by simp [gW,aK,aI]) ⟨0,rfl⟩
    apply Run.seq (fr':=gW (.sl 1 0 o.length g) c l i ++ [(24,.bool false)]) (H':=E)
    · apply Run.seq (piece hr7 _ rfl)
      exact Run.cond (d:=false) (by simp [gW,aK,aI]) ⟨0,rfl⟩
    refine Run.bH ?_ (by simp)
    apply Run.seq (piece hr9 _ rfl)
    refine Run.cond (d:=true) (by simp [gW,aK,aI]) ?_
    apply Run.seq (fr':=[(2,.sl E.length 0 0 0),(3,.int .i64 5)]) (H':=E ++ [some (⟨.pb [],0,none,0,true,false,0⟩:AM.Obj)])
    · simp only [gW]
      generalize l.map pxR = R at *
      generalize o.length = K at *
      (refine ⟨0,?_⟩;simp (maxSteps:=2000000) -implicitDefEqProofs [-getElem?_pos,go_sem,eqV,aj,aC,rowOf,AO])
    · exact ⟨0,rfl⟩
  rw [if_neg hbig,hn,hd] at he
  simp only [Int.toNat_natCast] at he
  rw [decide_eq_false hbig] at hr9
  have hcl:=zn d n o
  obtain ⟨OE,hcB,⟨⟨ex,fr,E2⟩,⟨he2,g',ob',hfr,ho',hw'⟩,hrB⟩⟩:=Sr (m:=m) (c:=c) hx hn hd d1 (by omega) ho hw (by omega)
  simp only at he2 hfr ho'
  subst he2
  refine au.of (o:=⟨.normal,gW (.sl 1 0 (jF d n o).length g') c l (i + 1),E2⟩) ?_ (.inl ⟨rfl,jF d n o,g',ob',rfl,ho',hw',by rw [hcl];omega,he⟩)
  apply Run.seq (fr':=fr) (H':=E2)
  · refine Run.block ?_ (by simp)
    apply Run.seq (fr':=gW (.sl 1 0 o.length g) c l i ++ [(18,.bool false)]) (H':=E)
    · apply Run.seq (piece hr5 _ rfl)
      exact Run.cond (d:=false) (by simp [gW,aK,aI]) ⟨0,rfl⟩
    apply Run.seq (fr':=gW (.sl 1 0 o.length g) c l i ++ [(24,.bool false)]) (H':=E)
    · apply Run.seq (piece hr7 _ rfl)
      exact Run.cond (d:=false) (by simp [gW,aK,aI]) ⟨0,rfl⟩
    apply Run.seq (fr':=gW (.sl 1 0 o.length g) c l i ++ [(40,.bool false)]) (H':=E)
    · apply Run.seq (piece hr9 _ rfl)
      exact Run.cond (d:=false) (by simp [gW,aK,aI]) ⟨0,rfl⟩
    apply Run.seq (fr':=tX (.sl 1 0 o.length g) c l i 0) (H':=E)
    · simp only [gW,tX]
      generalize l.map pxR = R at *
      generalize o.length = K at *
      (refine ⟨0,?_⟩;simp (maxSteps:=2000000) -implicitDefEqProofs [-getElem?_pos,go_sem,eqV,aj])
    · exact (Option.some.inj hcB) ▸ hrB
  · have g0:aI fr 0 = .ro c (.pr 3 (l.map pxR)) 1:=by simpa [bZ,gW,aI] using congrArg (fun f=>aI f 0) hfr
    have g4:aI fr 4 = .sl 1 0 (jF d n o).length g':=by simpa [bZ,gW,aI] using congrArg (fun f=>aI f 4) hfr
    have g5:aI fr 5 = .int .i64 (i:Nat):=by simpa [bZ,gW,aI] using congrArg (fun f=>aI f 5) hfr
    simp only [gW]
    generalize l.map pxR = R at *
    generalize (jF d n o).length = K at *
    generalize i + 1 = i1 at *
    (refine ⟨0,?_⟩;simp (maxSteps:=2000000) -implicitDefEqProofs [-getElem?_pos,go_sem,eqV,aj,g0,g4,g5,w1])
theorem GI {m:Nat} (hl:l.length≤2000):∃ code,Try.f36.body = some code∧au (nY (exX l)) X (evT X) 36 m code [(0,.ro c (.pr 3 (l.map pxR)) 1)] []:=by
  refine ⟨_,rfl,?_⟩
  apply au.seq (fr':=[(0,.ro c (.pr 3 (l.map pxR)) 1)]) (H':=[some (⟨.pb [],0,none,0,true,false,0⟩:AM.Obj)])
  · generalize l.map pxR = R at *
    (refine ⟨0,?_⟩;simp (maxSteps:=2000000) -implicitDefEqProofs [-getElem?_pos,go_sem,eqV,aj,aC,rowOf,AO])
  apply au.seq (fr':=[(0,.ro c (.pr 3 (l.map pxR)) 1),(4,.sl 1 0 0 0)]) (H':=[some (⟨.pb [],0,none,0,true,false,0⟩:AM.Obj),some (⟨.pb [],0,none,0,true,false,0⟩:AM.Obj)])
  · generalize l.map pxR = R at *
    (refine ⟨0,?_⟩;simp (maxSteps:=2000000) -implicitDefEqProofs [-getElem?_pos,go_sem,eqV,aj,aC,rowOf,AO])
  have hE:([some (⟨.pb [],0,none,0,true,false,0⟩:AM.Obj),some (⟨.pb [],0,none,0,true,false,0⟩:AM.Obj)]:AM.Heap)[1]? = some (some ⟨.pb [],0,none,0,true,false,0⟩):=rfl
  generalize [some (⟨.pb [],0,none,0,true,false,0⟩:AM.Obj),some (⟨.pb [],0,none,0,true,false,0⟩:AM.Obj)] = E0 at *
  apply au.assoc
  apply au.seq (fr':=gW (.sl 1 0 0 0) c l 0) (H':=E0)
  · simp only [gW]
    generalize l.map pxR = R at *
    (refine ⟨0,?_⟩;simp (maxSteps:=2000000) -implicitDefEqProofs [-getElem?_pos,go_sem,eqV,aj])
  have hll:(l.map pxR).length = l.length:=by simp
  refine au.Eh (P:=fun fr E=>∃ o g ob,jY l [] = (o,0)∧aI fr 4 = .sl 1 0 o.length g∧E[1]? = some (some ob)∧Rw (.pb o) g ob) ?_ ?_
  · refine au.lJ (I:=fun k fr E'=>∃ i o g ob,i≤l.length∧k = l.length - i∧fr = gW (.sl 1 0 o.length g) c l i∧E'[1]? = some (some ob)∧Rw (.pb o) g ob∧o.length≤258 * i∧jY (l.drop i) o = jY l []) ?_ (k:=l.length) ⟨0,[],0,_,by omega,rfl,rfl,hE,⟨rfl,rfl,rfl,rfl,rfl⟩,by simp,rfl⟩
    rintro k fr E' ⟨i,o,g,ob,hi,rfl,rfl,ho,hw,hol,he⟩
    by_cases hin:i = l.length
    · rw [List.drop_of_length_le (by omega),jY] at he
      refine au.of (o:=⟨.exit 0,gW (.sl 1 0 o.length g) c l i ++ [(10,.bool false)],E'⟩) ?_ (.inr ⟨by simp,.inl ⟨rfl,o,g,ob,he.symm,by simp [gW,aI],ho,hw⟩⟩)
      have hnI:¬ (i:Int) < (l.length:Int):=by omega
      have hnN:¬ i < l.length:=by omega
      refine ⟨0,?_⟩
      simp only [gW]
      generalize l.map pxR = R at *
      generalize l.length = N at *
      generalize o.length = K at *
      simp (maxSteps:=2000000) -implicitDefEqProofs [-getElem?_pos,go_sem,eqV,aj,hll,hnI,hnN]
    · have hlt:i < l.length:=by omega
      have jB:(i:Int) < (l.length:Int):=by omega
      obtain ⟨x,hx⟩:∃ x,l[i]? = some x:=⟨_,List.getElem?_eq_getElem hlt⟩
      apply au.assoc
      apply au.seq (fr':=gW (.sl 1 0 o.length g) c l i ++ [(10,.bool true)]) (H':=E')
      · simp only [gW]
        generalize l.map pxR = R at *
        generalize l.length = N at *
        generalize o.length = K at *
        (refine ⟨0,?_⟩;simp (maxSteps:=2000000) -implicitDefEqProofs [-getElem?_pos,go_sem,eqV,aj,hll,jB,hlt])
      apply au.seq (fr':=gW (.sl 1 0 o.length g) c l i ++ [(10,.bool true)]) (H':=E')
      · exact Run.cond (d:=true) (by simp [gW,aK,aI]) ⟨0,rfl⟩
      refine (piece (Sv (m:=m) (c:=c) hx hl ho hw hol he) _ rfl).mono ?_
      rintro out (⟨h1,o',g',ob',h2,h3,h4,h5,h6⟩ | ⟨h1,h2⟩)
      · exact .inl ⟨h1,l.length - (i + 1),by omega,i + 1,o',g',ob',by omega,rfl,h2,h3,h4,h5,h6⟩
      · exact .inr ⟨by rw [h1];simp,.inr ⟨h1,h1,h2⟩⟩
  · rintro fr E' ⟨o,g,ob,he,h4,ho,hw⟩
    refine au.of (o:=⟨.ret,[(2,.sl 1 0 o.length g),(3,.int .i64 0)],E'⟩) ?_ ⟨rfl,o,0,1,g,ob,he,rfl,rfl,ho,hw⟩
    refine ⟨0,?_⟩
    generalize o.length = K at *
    simp (maxSteps:=2000000) -implicitDefEqProofs [-getElem?_pos,go_sem,eqV,aj,h4,aC]
theorem KP {H:AM.Heap} {a:AV} (ha:iD H a = some (.pr 3 (l.map pxR))) (hl:l.length≤2000):∃ ob,Rw (.pb (jY l []).1) 0 ob∧evT X 36 [a] H = some (.tup [.sl H.length 0 (jY l []).1.length 0,.int .i64 (jY l []).2],H ++ [some ob]):=by
  obtain ⟨c,x,hx⟩:=fJ (C:=X) (f:=36) (i:=0) rfl ha (dQ 1)
  obtain ⟨code,hc,⟨out,⟨ho,o,e,a2,g,ob,h1,h2,h3,h4,hw⟩,hrun⟩⟩:=GI (m:=0) (c:=c) (l:=l) hl
  rw [h1]
  obtain ⟨ob',q1,q2⟩:=Ev1.Fq (C:=X) (H:=H) (bJ X) (n:=o.length) (l:=o) (rest:=[.int .i64 e]) Try.func36 hc hx rfl (by simp [dJ]) rfl rfl rfl (by
    rw [WU]
    refine ⟨out,⟨ho,a2,g,ob,?_,h4,hw⟩,hrun⟩
    show bf X out.fr out.H [.tmp 2,.tmp 3] = _
    simp [bf,h2,h3])
  exact ⟨ob',q1,eH (by simpa [aW,gG] using q2)⟩
end
end Go.Proofs.Yteblpjhkgdpchaa
namespace Go.Proofs.Yteblpjhkgdpchaa
open Go.AM
def gq (o6 o7 o8 o10 o12 c:Nat) (l:List Px) (i:Nat):AM.Frame:=[(0,.ro c (.pr 3 (l.map pxR)) 1),(6,.sl o6 0 288 0),(7,.sl o7 0 32 0),(8,.sl o8 0 288 0),(10,.sl o10 0 32 0),(12,.ptr o12 0 0 0),(13,.int .i64 (i:Nat))]
structure GxV (E:AM.Heap) (o6 o7 o8 o10 o12:Nat) (oa:Option Nat) (s:Ws):Prop where
  r6:E[o6]? = some (dK 288 flL)
  r7:E[o7]? = some (dK 32 flD)
  r8:E[o8]? = some (dK 288 lcL)
  r10:E[o10]? = some (dK 32 dcL)
  wr:WrV 0 E o12 oa s
  lt:o6 < o12∧o7 < o12∧o8 < o12∧o10 < o12
  oa:∀ a,oa = some a→o12 < a
  ok:iq s
section
variable {E:AM.Heap} {o6 o7 o8 o10 o12:Nat} {oa:Option Nat} {s:Ws}
theorem GxV.step {E':AM.Heap} {oa':Option Nat} {s':Ws} (h:GxV E o6 o7 o8 o10 o12 oa s) (hw:WrV 0 E' o12 oa' s') (hk:Kpw E E' o12 oa oa') (hok:iq s'):GxV E' o6 o7 o8 o10 o12 oa' s':=by
  obtain ⟨l6,l7,l8,l10⟩:=h.lt
  have hl:=h.wr.lt'
  have keep:∀ j,j < o12→E'[j]? = E[j]?:=fun j hj=>hk.rest j (by omega) (by omega) fun a ha=>by have:=h.oa a ha;omega
  refine ⟨by rw [keep _ l6];exact h.r6,by rw [keep _ l7];exact h.r7,by rw [keep _ l8];exact h.r8,by rw [keep _ l10];exact h.r10,hw,h.lt,?_,hok⟩
  intro a ha
  cases hq:oa with
  | none=>have:=hk.new a hq ha;omega
  | some z =>
    have:=hk.same z hq
    rw [ha] at this
    cases this
    exact h.oa _ hq
theorem UY {m i c:Nat} {x:Px} {l:List Px} {tl:AM.Frame} (hx:l[i]? = some x):∃ code,((Try.f28.body).bind (aS [1,1,1,1,1,1,1,1,1,0,1,0,0,1,0,0,0,0])) = some code∧Run X (evT X) 28 m code (gq o6 o7 o8 o10 o12 c l i ++ tl) E ⟨.normal,gq o6 o7 o8 o10 o12 c l i ++ [(57,.bool (decide (x.len = 0)))],E⟩:=by
  refine ⟨_,rfl,?_⟩
  obtain ⟨h1,h2,h3⟩:=tC hx
  simp only [gq,pxR] at h1 ⊢
  generalize l.map pxR = R at *
  generalize hN:R.length = N at *
  by_cases h:x.len = 0
  · have hb:(x.len == 0) = true:=by simpa using h
    rw [decide_eq_true h]
    (refine ⟨0,?_⟩;simp (maxSteps:=2000000) -implicitDefEqProofs [-getElem?_pos,go_sem,eqV,aj,h1,h2,h3,hN,h,hb])
  · have hb:(x.len == 0) = false:=by simpa using h
    rw [decide_eq_false h]
    (refine ⟨0,?_⟩;simp (maxSteps:=2000000) -implicitDefEqProofs [-getElem?_pos,go_sem,eqV,aj,h1,h2,h3,hN,h,hb])
theorem UZ {m i c:Nat} {x:Px} {l:List Px} {tl:AM.Frame} (hx:l[i]? = some x):∃ code,((Try.f28.body).bind (aS [1,1,1,1,1,1,1,1,1,0,1,0,0,1,0,0,0,1,0,0])) = some code∧Run X (evT X) 28 m code (gq o6 o7 o8 o10 o12 c l i ++ tl) E ⟨.normal,gq o6 o7 o8 o10 o12 c l i ++ [(14,.int .i64 (x.byte.toNat:Nat))],E⟩:=by
  refine ⟨_,rfl,?_⟩
  obtain ⟨h1,h2,h3⟩:=tC hx
  have hy:=x.byte.toNat_lt
  have w1:IntKind.i64.wrap (x.byte.toNat:Int) = (x.byte.toNat:Int):=wrap_i64 (by omega) (by omega)
  simp only [gq,pxR] at h1 ⊢
  generalize l.map pxR = R at *
  generalize hN:R.length = N at *
  (refine ⟨0,?_⟩;simp (maxSteps:=2000000) -implicitDefEqProofs [-getElem?_pos,go_sem,eqV,aj,h1,h2,h3,hN,w1])
theorem U0 {m i u v w c:Nat} {l:List Px} {tl:AM.Frame} (h:GxV E o6 o7 o8 o10 o12 oa s) (hl:s.k≤7000000) (hu:u < 288):∃ E' oa',GxV E' o6 o7 o8 o10 o12 oa' (uD s lcL flL u)∧Kpw E E' o12 oa oa'∧∃ code,((Try.f28.body).bind (aS [1,1,1,1,1,1,1,1,1,0,1,0,0,1,0,0,0,1,0,1,0])) = some code∧Run X (evT X) 28 m code (gq o6 o7 o8 o10 o12 c l i ++ [(14,.int .i64 (u:Nat))]) E ⟨.normal,gq o6 o7 o8 o10 o12 c l i,E'⟩:=by
  obtain ⟨n0,n9⟩:=qC _ hu
  have hc:=iZ (l:=lcL) (y:=u) (by unfold lcL;rw [jL,iY];exact hu)
  have hf:=iZ (l:=flL) (y:=u) (by rw [iY];exact hu)
  obtain ⟨E',oa',g1,g2,g3⟩:=yU (x:=lcL.getD u 0) (I:=flL.getD u 0) (n:=(flL.getD u 0).toNat) (by omega) h.wr h.ok (by omega) (by omega)
  have hs:=iC (cs:=lcL) (ls:=flL) (y:=u) h.ok
  refine ⟨E',oa',h.step g2 g3 hs.1,g3,_,rfl,?_⟩
  have q6:=h.r6;have q8:=h.r8
  have huI:(u:Int) < 288:=by omega
  simp only [flO,dK] at q6 q8
  simp only [gq]
  generalize lcL.getD u 0 = v1 at *
  generalize flL.getD u 0 = v2 at *
  generalize l.map pxR = R at *
  generalize lcL = LC at *
  generalize flL = LL at *
  (refine ⟨0,?_⟩;simp (maxSteps:=2000000) -implicitDefEqProofs [-getElem?_pos,go_sem,eqV,aj,retag,q6,q8,huI,hu,hc,hf,g1])
theorem U1 {m i u v w c:Nat} {l:List Px} {tl:AM.Frame} (h:GxV E o6 o7 o8 o10 o12 oa s) (hl:s.k≤7000000) (hu:u < 288):∃ E' oa',GxV E' o6 o7 o8 o10 o12 oa' (uD s lcL flL u)∧Kpw E E' o12 oa oa'∧∃ code,((Try.f28.body).bind (aS [1,1,1,1,1,1,1,1,1,0,1,0,0,1,0,0,1,1,1,0])) = some code∧Run X (evT X) 28 m code (gq o6 o7 o8 o10 o12 c l i ++ [(15,.int .i64 (u:Nat)),(16,.int .i64 (v:Nat)),(17,.int .i64 (w:Nat))]) E ⟨.normal,gq o6 o7 o8 o10 o12 c l i ++ [(16,.int .i64 (v:Nat)),(17,.int .i64 (w:Nat))],E'⟩:=by
  obtain ⟨n0,n9⟩:=qC _ hu
  have hc:=iZ (l:=lcL) (y:=u) (by unfold lcL;rw [jL,iY];exact hu)
  have hf:=iZ (l:=flL) (y:=u) (by rw [iY];exact hu)
  obtain ⟨E',oa',g1,g2,g3⟩:=yU (x:=lcL.getD u 0) (I:=flL.getD u 0) (n:=(flL.getD u 0).toNat) (by omega) h.wr h.ok (by omega) (by omega)
  have hs:=iC (cs:=lcL) (ls:=flL) (y:=u) h.ok
  refine ⟨E',oa',h.step g2 g3 hs.1,g3,_,rfl,?_⟩
  have q6:=h.r6;have q8:=h.r8
  have huI:(u:Int) < 288:=by omega
  simp only [flO,dK] at q6 q8
  simp only [gq]
  generalize lcL.getD u 0 = v1 at *
  generalize flL.getD u 0 = v2 at *
  generalize l.map pxR = R at *
  generalize lcL = LC at *
  generalize flL = LL at *
  (refine ⟨0,?_⟩;simp (maxSteps:=2000000) -implicitDefEqProofs [-getElem?_pos,go_sem,eqV,aj,retag,q6,q8,huI,hu,hc,hf,g1])
theorem U2 {m i u v w c:Nat} {l:List Px} {tl:AM.Frame} (h:GxV E o6 o7 o8 o10 o12 oa s) (hl:s.k≤7000000) (hu:u < 32):∃ E' oa',GxV E' o6 o7 o8 o10 o12 oa' (uD s dcL flD u)∧Kpw E E' o12 oa oa'∧∃ code,((Try.f28.body).bind (aS [1,1,1,1,1,1,1,1,1,0,1,0,0,1,0,0,1,1,1,1,1,1,1,0])) = some code∧Run X (evT X) 28 m code (gq o6 o7 o8 o10 o12 c l i ++ [(15,.int .i64 (u:Nat)),(16,.int .i64 (v:Nat)),(17,.int .i64 (w:Nat))]) E ⟨.normal,gq o6 o7 o8 o10 o12 c l i ++ [(16,.int .i64 (v:Nat)),(17,.int .i64 (w:Nat))],E'⟩:=by
  obtain ⟨n0,n9⟩:=BK _ hu
  have hc:=iZ (l:=dcL) (y:=u) (by unfold dcL;rw [jL,pU];exact hu)
  have hf:=iZ (l:=flD) (y:=u) (by rw [pU];exact hu)
  obtain ⟨E',oa',g1,g2,g3⟩:=yU (x:=dcL.getD u 0) (I:=flD.getD u 0) (n:=(flD.getD u 0).toNat) (by omega) h.wr h.ok (by omega) (by omega)
  have hs:=iC (cs:=dcL) (ls:=flD) (y:=u) h.ok
  refine ⟨E',oa',h.step g2 g3 hs.1,g3,_,rfl,?_⟩
  have q6:=h.r7;have q8:=h.r10
  have huI:(u:Int) < 32:=by omega
  simp only [flO,dK] at q6 q8
  simp only [gq]
  generalize dcL.getD u 0 = v1 at *
  generalize flD.getD u 0 = v2 at *
  generalize l.map pxR = R at *
  generalize dcL = LC at *
  generalize flD = LL at *
  (refine ⟨0,?_⟩;simp (maxSteps:=2000000) -implicitDefEqProofs [-getElem?_pos,go_sem,eqV,aj,retag,q6,q8,huI,hu,hc,hf,g1])
theorem U3 {m i c n:Nat} {x:Px} {l:List Px} {tl:AM.Frame} (hx:l[i]? = some x) (hn:x.len = (n:Nat)) (h3:3≤n) (hn2:n≤258):∃ code,((Try.f28.body).bind (aS [1,1,1,1,1,1,1,1,1,0,1,0,0,1,0,0,1,0])) = some code∧Run X (evT X) 28 m code (gq o6 o7 o8 o10 o12 c l i ++ tl) E ⟨.normal,gq o6 o7 o8 o10 o12 c l i ++ [(15,.int .i64 ((lenOf n).1:Nat))],E⟩:=by
  refine ⟨_,rfl,?_⟩
  obtain ⟨h1,h2,h3'⟩:=tC hx
  have hL:=Js (H:=E) h3 hn2
  simp only [gq,pxR,hn] at h1 ⊢
  generalize (lenOf n).1 = u at *
  generalize l.map pxR = R at *
  generalize hN:R.length = N at *
  (refine ⟨0,?_⟩;simp (maxSteps:=2000000) -implicitDefEqProofs [-getElem?_pos,go_sem,eqV,aj,h1,h2,h3',hN,hL])
theorem Sz {m i c n:Nat} {l:List Px} (h3:3≤n) (hn2:n≤258):∃ code,((Try.f28.body).bind (aS [1,1,1,1,1,1,1,1,1,0,1,0,0,1,0,0,1,1,0])) = some code∧Run X (evT X) 28 m code (gq o6 o7 o8 o10 o12 c l i ++ [(15,.int .i64 ((lenOf n).1:Nat))]) E ⟨.normal,gq o6 o7 o8 o10 o12 c l i ++ [(15,.int .i64 ((lenOf n).1:Nat)),(16,.int .i64 ((lenOf n).2.1:Nat)),(17,.int .i64 ((lenOf n).2.2:Nat))],E⟩:=by
  refine ⟨_,rfl,?_⟩
  have hL:=Sj (H:=E) h3 hn2
  simp only [gq]
  generalize lenOf n = R3 at *
  generalize l.map pxR = R at *
  (refine ⟨0,?_⟩;simp (maxSteps:=2000000) -implicitDefEqProofs [-getElem?_pos,go_sem,eqV,aj,hL,aC])
theorem U4 {m i c n:Nat} {x:Px} {l:List Px} {tl:AM.Frame} (hx:l[i]? = some x) (hn:x.dist = (n:Nat)) (h3:1≤n) (hn2:n≤32768):∃ code,((Try.f28.body).bind (aS [1,1,1,1,1,1,1,1,1,0,1,0,0,1,0,0,1,1,1,1,1,0])) = some code∧Run X (evT X) 28 m code (gq o6 o7 o8 o10 o12 c l i ++ tl) E ⟨.normal,gq o6 o7 o8 o10 o12 c l i ++ [(15,.int .i64 ((bU n).1:Nat))],E⟩:=by
  refine ⟨_,rfl,?_⟩
  obtain ⟨h1,h2,h3'⟩:=tC hx
  have hL:=Ec (H:=E) h3 hn2
  simp only [gq,pxR,hn] at h1 ⊢
  generalize (bU n).1 = u at *
  generalize l.map pxR = R at *
  generalize hN:R.length = N at *
  (refine ⟨0,?_⟩;simp (maxSteps:=2000000) -implicitDefEqProofs [-getElem?_pos,go_sem,eqV,aj,h1,h2,h3',hN,hL])
theorem SA {m i c n:Nat} {l:List Px} (h3:1≤n) (hn2:n≤32768):∃ code,((Try.f28.body).bind (aS [1,1,1,1,1,1,1,1,1,0,1,0,0,1,0,0,1,1,1,1,1,1,0])) = some code∧Run X (evT X) 28 m code (gq o6 o7 o8 o10 o12 c l i ++ [(15,.int .i64 ((bU n).1:Nat))]) E ⟨.normal,gq o6 o7 o8 o10 o12 c l i ++ [(15,.int .i64 ((bU n).1:Nat)),(16,.int .i64 ((bU n).2.1:Nat)),(17,.int .i64 ((bU n).2.2:Nat))],E⟩:=by
  refine ⟨_,rfl,?_⟩
  have hL:=Sl (H:=E) h3 hn2
  simp only [gq]
  generalize bU n = R3 at *
  generalize l.map pxR = R at *
  (refine ⟨0,?_⟩;simp (maxSteps:=2000000) -implicitDefEqProofs [-getElem?_pos,go_sem,eqV,aj,hL,aC])
theorem U5 {m i v w c n:Nat} {x:Px} {l:List Px} (h:GxV E o6 o7 o8 o10 o12 oa s) (hl:s.k≤7000000) (hx:l[i]? = some x) (hn:x.len = (n:Nat)) (hn2:n≤100000) (hv:v≤n) (hw:w≤60):∃ E' oa',GxV E' o6 o7 o8 o10 o12 oa' (cu s (x.len - (v:Nat)) w)∧Kpw E E' o12 oa oa'∧∃ code,((Try.f28.body).bind (aS [1,1,1,1,1,1,1,1,1,0,1,0,0,1,0,0,1,1,1,1,0])) = some code∧Run X (evT X) 28 m code (gq o6 o7 o8 o10 o12 c l i ++ [(16,.int .i64 (v:Nat)),(17,.int .i64 (w:Nat))]) E ⟨.normal,gq o6 o7 o8 o10 o12 c l i,E'⟩:=by
  obtain ⟨E',oa',g1,g2,g3⟩:=vW (x:=x.len - (v:Nat)) (I:=(w:Nat)) (n:=w) rfl h.wr h.ok (by omega) hw
  refine ⟨E',oa',h.step g2 g3 (bT h.ok w).1,g3,_,rfl,?_⟩
  rw [hn] at g1
  obtain ⟨h1,h2,h3⟩:=tC hx
  have w1:IntKind.i64.wrap ((n:Int) - (v:Int)) = (n:Int) - (v:Int):=by rw [wrap_i64 (by omega) (by omega)]
  simp only [gq,pxR,hn] at h1 ⊢
  generalize l.map pxR = R at *
  generalize hN:R.length = N at *
  (refine ⟨0,?_⟩;simp (maxSteps:=2000000) -implicitDefEqProofs [-getElem?_pos,go_sem,eqV,aj,h1,h2,h3,hN,w1,g1])
theorem U6 {m i v w c n:Nat} {x:Px} {l:List Px} (h:GxV E o6 o7 o8 o10 o12 oa s) (hl:s.k≤7000000) (hx:l[i]? = some x) (hn:x.dist = (n:Nat)) (hn2:n≤100000) (hv:v≤n) (hw:w≤60):∃ E' oa',GxV E' o6 o7 o8 o10 o12 oa' (cu s (x.dist - (v:Nat)) w)∧Kpw E E' o12 oa oa'∧∃ code,((Try.f28.body).bind (aS [1,1,1,1,1,1,1,1,1,0,1,0,0,1,0,0,1,1,1,1,1,1,1,1])) = some code∧Run X (evT X) 28 m code (gq o6 o7 o8 o10 o12 c l i ++ [(16,.int .i64 (v:Nat)),(17,.int .i64 (w:Nat))]) E ⟨.normal,gq o6 o7 o8 o10 o12 c l i,E'⟩:=by
  obtain ⟨E',oa',g1,g2,g3⟩:=vW (x:=x.dist - (v:Nat)) (I:=(w:Nat)) (n:=w) rfl h.wr h.ok (by omega) hw
  refine ⟨E',oa',h.step g2 g3 (bT h.ok w).1,g3,_,rfl,?_⟩
  rw [hn] at g1
  obtain ⟨h1,h2,h3⟩:=tC hx
  have w1:IntKind.i64.wrap ((n:Int) - (v:Int)) = (n:Int) - (v:Int):=by rw [wrap_i64 (by omega) (by omega)]
  simp only [gq,pxR,hn] at h1 ⊢
  generalize l.map pxR = R at *
  generalize hN:R.length = N at *
  (refine ⟨0,?_⟩;simp (maxSteps:=2000000) -implicitDefEqProofs [-getElem?_pos,go_sem,eqV,aj,h1,h2,h3,hN,w1,g1])
end
end Go.Proofs.Yteblpjhkgdpchaa
namespace Go.Proofs.Yteblpjhkgdpchaa
open Go.AM
section
variable {E:AM.Heap} {o6 o7 o8 o10 o12:Nat} {oa:Option Nat} {s:Ws}
theorem SB {m i c:Nat} {x:Px} {l:List Px} (h:GxV E o6 o7 o8 o10 o12 oa s) (hl:s.k≤6000000) (hx:l[i]? = some x) (hll:l.length≤100000) (hm:kS x = true):∃ E' oa',GxV E' o6 o7 o8 o10 o12 oa' (pxW s x)∧∃ code,((Try.f28.body).bind (aS [1,1,1,1,1,1,1,1,1,0,1,0,0,1])) = some code∧Run X (evT X) 28 m code (gq o6 o7 o8 o10 o12 c l i ++ [(49,.bool true)]) E ⟨.normal,gq o6 o7 o8 o10 o12 c l (i + 1),E'⟩:=by
  have hi:=iF hx
  have w1:IntKind.i64.wrap ((i:Int) + 1) = ((i + 1:Nat):Int):=by rw [wrap_i64 (by omega) (by omega)];omega
  have FC:=UY (m:=m) (E:=E) (o6:=o6) (o7:=o7) (o8:=o8) (o10:=o10) (o12:=o12) (c:=c) (tl:=[(49,.bool true)]) hx
  have FB:∀ E',∃ code,((Try.f28.body).bind (aS [1,1,1,1,1,1,1,1,1,0,1,0,0,1,1])) = some code∧Run X (evT X) 28 m code (gq o6 o7 o8 o10 o12 c l i) E' ⟨.normal,gq o6 o7 o8 o10 o12 c l (i + 1),E'⟩:=by
    intro E'
    refine ⟨_,rfl,?_⟩
    simp only [gq]
    generalize l.map pxR = R at *
    generalize i + 1 = i1 at *
    (refine ⟨0,?_⟩;simp (maxSteps:=2000000) -implicitDefEqProofs [-getElem?_pos,go_sem,eqV,aj,w1])
  unfold pxW
  by_cases h0:x.len = 0
  · rw [if_pos h0]
    rw [decide_eq_true h0] at FC
    have hy:=x.byte.toNat_lt
    have ad6:=UZ (m:=m) (E:=E) (o6:=o6) (o7:=o7) (o8:=o8) (o10:=o10) (o12:=o12) (c:=c) (tl:=[(57,.bool true)]) hx
    obtain ⟨E1,oa1,g1,g2,g3⟩:=U0 (m:=m) (i:=i) (c:=c) (l:=l) (v:=0) (w:=0) (tl:=[]) (u:=x.byte.toNat) h (by omega) (by omega)
    refine ⟨E1,oa1,g1,_,rfl,?_⟩
    apply Run.seq (fr':=gq o6 o7 o8 o10 o12 c l i) (H':=E1)
    · refine Run.fV ?_
      refine Run.bH ?_ (by simp)
      apply Run.seq (piece FC _ rfl)
      refine Run.cond (d:=true) (by simp [gq,aK,aI]) ?_
      apply Run.seq (piece ad6 _ rfl)
      exact Run.seq (piece g3 _ rfl) ⟨0,rfl⟩
    · exact piece (FB E1) _ rfl
  · rw [if_neg h0]
    rw [decide_eq_false h0] at FC
    obtain ⟨n,d,hn,hd,n3,n258,d1⟩:=xY hm h0
    have hd2:=BL hm h0
    have en:x.len.toNat = n:=by omega
    have ed:x.dist.toNat = d:=by omega
    rw [en,ed]
    obtain ⟨a1,a2,a3,a4,a5⟩:=pV n (by omega) n3
    obtain ⟨b1,b2,b3,b4⟩:=lu d1 (by omega)
    have f1:=qC (lenOf n).1 (by omega)
    have f2:=BK (bU d).1 (by omega)
    have ad7:=U3 (m:=m) (E:=E) (o6:=o6) (o7:=o7) (o8:=o8) (o10:=o10) (o12:=o12) (c:=c) (tl:=[(57,.bool false)]) hx hn n3 n258
    have QX:=Sz (m:=m) (E:=E) (o6:=o6) (o7:=o7) (o8:=o8) (o10:=o10) (o12:=o12) (i:=i) (c:=c) (l:=l) n3 n258
    obtain ⟨E1,oa1,g1,g2,g3⟩:=U1 (m:=m) (i:=i) (u:=(lenOf n).1) (v:=(lenOf n).2.1) (w:=(lenOf n).2.2) (c:=c) (l:=l) (tl:=[]) h (by omega) (by omega)
    have k1:=(iC (cs:=lcL) (ls:=flL) (y:=(lenOf n).1) h.ok).2
    obtain ⟨E2,oa2,g4,g5,g6⟩:=U5 (m:=m) (i:=i) (v:=(lenOf n).2.1) (w:=(lenOf n).2.2) (c:=c) (l:=l) g1 (by omega) hx hn (by omega) a3 (by omega)
    have k2:=(bT (x:=x.len - ((lenOf n).2.1:Nat)) g1.ok (lenOf n).2.2).2
    have Xi:=U4 (m:=m) (E:=E2) (o6:=o6) (o7:=o7) (o8:=o8) (o10:=o10) (o12:=o12) (c:=c) (tl:=[]) hx hd d1 (by omega)
    have Rj:=SA (m:=m) (E:=E2) (o6:=o6) (o7:=o7) (o8:=o8) (o10:=o10) (o12:=o12) (i:=i) (c:=c) (l:=l) (n:=d) d1 (by omega)
    obtain ⟨E3,oa3,g7,g8,g9⟩:=U2 (m:=m) (i:=i) (u:=(bU d).1) (v:=(bU d).2.1) (w:=(bU d).2.2) (c:=c) (l:=l) (tl:=[]) g4 (by omega) (by omega)
    have k3:=(iC (cs:=dcL) (ls:=flD) (y:=(bU d).1) g4.ok).2
    obtain ⟨E4,oa4,g10,g11,g12⟩:=U6 (m:=m) (i:=i) (v:=(bU d).2.1) (w:=(bU d).2.2) (c:=c) (l:=l) g7 (by omega) hx hd (by omega) b2 (by omega)
    rw [List.append_nil] at Xi
    refine ⟨E4,oa4,g10,_,rfl,?_⟩
    apply Run.seq (fr':=gq o6 o7 o8 o10 o12 c l i) (H':=E4)
    · refine Run.block ?_ (by simp)
      apply Run.seq (fr':=gq o6 o7 o8 o10 o12 c l i ++ [(57,.bool false)]) (H':=E)
      · apply Run.seq (piece FC _ rfl)
        exact Run.cond (d:=false) (by simp [gq,aK,aI]) ⟨0,rfl⟩
      apply Run.seq (piece ad7 _ rfl)
      apply Run.seq (piece QX _ rfl)
      apply Run.seq (piece g3 _ rfl)
      apply Run.seq (piece g6 _ rfl)
      apply Run.seq (piece Xi _ rfl)
      apply Run.seq (piece Rj _ rfl)
      apply Run.seq (piece g9 _ rfl)
      exact piece g12 _ rfl
    · exact piece (FB E4) _ rfl
theorem SC {m c:Nat} {l:List Px} (h:GxV E o6 o7 o8 o10 o12 oa s) (hs:s.k≤100) (hll:l.length≤2000) (hm:∀ x ∈ l,kS x = true):∃ code,((Try.f28.body).bind (aS [1,1,1,1,1,1,1,1,1,0,1])) = some code∧au (Goes fun fr E'=>∃ oa',fr = gq o6 o7 o8 o10 o12 c l l.length ++ [(49,.bool false)]∧GxV E' o6 o7 o8 o10 o12 oa' (l.foldl pxW s)) X (evT X) 28 m code (gq o6 o7 o8 o10 o12 c l 0) E:=by
  refine ⟨_,rfl,?_⟩
  have hlm:(l.map pxR).length = l.length:=by simp
  apply au.block
  refine au.lJ (I:=fun k fr E'=>∃ i oa' s',i≤l.length∧k = l.length - i∧fr = gq o6 o7 o8 o10 o12 c l i∧GxV E' o6 o7 o8 o10 o12 oa' s'∧s'.k≤100 + 40 * i∧(l.drop i).foldl pxW s' = l.foldl pxW s) ?_ (k:=l.length) ⟨0,oa,s,by omega,rfl,rfl,h,by omega,rfl⟩
  rintro k fr E' ⟨i,oa',s',hi,rfl,rfl,hF,hk,hf⟩
  by_cases hin:i = l.length
  · rw [List.drop_of_length_le (by omega),List.foldl_nil] at hf
    refine au.of (o:=⟨.exit 0,gq o6 o7 o8 o10 o12 c l i ++ [(49,.bool false)],E'⟩) ?_ (.inr ⟨by simp,rfl,oa',by rw [hin],by rw [← hf];exact hF⟩)
    have hnI:¬ (i:Int) < (l.length:Int):=by omega
    have hnN:¬ i < l.length:=by omega
    refine ⟨0,?_⟩
    simp only [gq]
    generalize l.map pxR = R at *
    generalize l.length = N at *
    simp (maxSteps:=2000000) -implicitDefEqProofs [-getElem?_pos,go_sem,eqV,aj,hlm,hnI,hnN]
  · have hlt:i < l.length:=by omega
    have jB:(i:Int) < (l.length:Int):=by omega
    obtain ⟨x,hx⟩:∃ x,l[i]? = some x:=⟨_,List.getElem?_eq_getElem hlt⟩
    have hmx:=hm x (List.mem_of_getElem? hx)
    have hdrop:l.drop i = x :: l.drop (i + 1):=by
      rw [List.drop_eq_getElem_cons hlt]
      rw [List.getElem?_eq_getElem hlt] at hx
      rw [Option.some.inj hx]
    rw [hdrop,List.foldl_cons] at hf
    obtain ⟨E2,oa2,g1,g2⟩:=SB (m:=m) (c:=c) hF (by omega) hx (by omega) hmx
    have hk2:=(Fz hF.ok hmx).2
    refine au.of (o:=⟨.normal,gq o6 o7 o8 o10 o12 c l (i + 1),E2⟩) ?_ (.inl ⟨rfl,l.length - (i + 1),by omega,i + 1,oa2,_,by omega,rfl,rfl,g1,by omega,hf⟩)
    apply Run.seq (fr':=gq o6 o7 o8 o10 o12 c l i ++ [(49,.bool true)]) (H':=E')
    · apply Run.seq (fr':=gq o6 o7 o8 o10 o12 c l i ++ [(49,.bool true)]) (H':=E')
      · simp only [gq]
        generalize l.map pxR = R at *
        generalize l.length = N at *
        (refine ⟨0,?_⟩;simp (maxSteps:=2000000) -implicitDefEqProofs [-getElem?_pos,go_sem,eqV,aj,hlm,jB,hlt])
      · exact Run.cond (d:=true) (by simp [gq,aK,aI]) ⟨0,rfl⟩
    exact piece g2 _ rfl
theorem U7 {m c i:Nat} {l:List Px} {tl:AM.Frame} (h:GxV E o6 o7 o8 o10 o12 oa s) (hl:s.k≤7000000):∃ E' oa',GxV E' o6 o7 o8 o10 o12 oa' (uD s lcL flL 256)∧∃ code,((Try.f28.body).bind (aS [1,1,1,1,1,1,1,1,1,1,0])) = some code∧Run X (evT X) 28 m code (gq o6 o7 o8 o10 o12 c l i ++ tl) E ⟨.normal,[(12,.ptr o12 0 0 0)],E'⟩:=by
  obtain ⟨n0,n9⟩:=qC 256 (by omega)
  have hc:=iZ (l:=lcL) (y:=256) (by unfold lcL;rw [jL,iY];omega)
  have hf:=iZ (l:=flL) (y:=256) (by rw [iY];omega)
  obtain ⟨E',oa',g1,g2,g3⟩:=yU (x:=lcL.getD 256 0) (I:=flL.getD 256 0) (n:=(flL.getD 256 0).toNat) (by omega) h.wr h.ok (by omega) (by omega)
  have hs:=iC (cs:=lcL) (ls:=flL) (y:=256) h.ok
  refine ⟨E',oa',h.step g2 g3 hs.1,_,rfl,?_⟩
  have q6:=h.r6;have q8:=h.r8
  simp only [flO,dK] at q6 q8
  simp only [gq]
  generalize lcL.getD 256 0 = v1 at *
  generalize flL.getD 256 0 = v2 at *
  generalize l.map pxR = R at *
  generalize lcL = LC at *
  generalize flL = LL at *
  (refine ⟨0,?_⟩;simp (maxSteps:=2000000) -implicitDefEqProofs [-getElem?_pos,go_sem,eqV,aj,retag,q6,q8,hc,hf,g1])
theorem U8 {m:Nat} (h:GxV E o6 o7 o8 o10 o12 oa s) (hne:s.o ≠ []):∃ a g ob,E[a]? = some (some ob)∧Rw (.pb s.o) g ob∧∃ code,((Try.f28.body).bind (aS [1,1,1,1,1,1,1,1,1,1,1,0])) = some code∧Run X (evT X) 28 m code ([(12,.ptr o12 0 0 0)]) E ⟨.normal,[(2,.sl a 0 s.o.length g),(3,.int .i64 0)],E⟩:=by
  obtain ⟨⟨vo,τ,a1,h0,ho⟩,hn⟩:=id h.wr
  cases hq:oa with
  | none=>rw [hq] at ho;exact absurd ho.1 hne
  | some a =>
    rw [hq] at ho
    obtain ⟨g,τ2,ob,hτ2,rfl,h3,h4⟩:=ho
    have ht:τ2 = 0:=hτ2.elim id id
    refine ⟨a,g,ob,h3,⟨h4.p,h4.g,h4.row,h4.ids,by rw [h4.tg,ht]⟩,_,rfl,?_⟩
    simp only [fM] at h0
    generalize s.o.length = N at *
    (refine ⟨0,?_⟩;simp (maxSteps:=2000000) -implicitDefEqProofs [-getElem?_pos,go_sem,eqV,aj,h0,aC])
end
end Go.Proofs.Yteblpjhkgdpchaa
namespace Go.Proofs.Yteblpjhkgdpchaa
open Go.AM
def KQ:Row1:=⟨37,[],.tup [.sl 0 0 288 0,.sl 1 0 32 0],[dK 288 flL,dK 32 flD]⟩
theorem Oh:ku X (KQ :: []):=ku.cons (BI ku.nil) ku.nil (n:=400) (by kernel_rfl)
theorem Xj (H:AM.Heap):evT X 37 [] H = some (.tup [.sl H.length 0 288 0,.sl (H.length + 1) 0 32 0],H ++ [dK 288 flL,dK 32 flD]):=by
 have:=eH (Ev1.frame (Oh KQ (List.mem_singleton.2 rfl)).1 rfl H)
 simpa [KQ,dX,kU,ren,bn,uz,dK,dN,Nat.add_comm] using this
theorem Jt {H:AM.Heap} {o k:Nat} {l:List Int} (h:H[o]? = some (dK k l)):iD H (.sl o 0 l.length 0) = some (.pi .i64 l):=by
 simp [iD,live,h,dK,jo]
theorem ad8:qF X 63 [] = some (.agg (.pc [.ro 0 .pn 0,.int .i64 0])):=by kernel_rfl
section
variable {c:Nat} {l:List Px}
theorem Ju {m:Nat} (hl:l.length≤2000):∃ code,Try.f28.body = some code∧au (nY (fiX l)) X (evT X) 28 m code [(0,.ro c (.pr 3 (l.map pxR)) 1)] []:=by
 refine ⟨_,rfl,?_⟩
 obtain ⟨obE,hwE,hEx⟩:=KP (H:=[some (⟨.pb [],0,none,0,true,false,0⟩:AM.Obj)]) (a:=.ro c (.pr 3 (l.map pxR)) 1) (l:=l) rfl hl
 have hmay:=Ba (l:=l) (o:=[])
 unfold fiX iT
 generalize hex:jY l [] = r at *
 obtain ⟨o,e⟩:=r
 simp only at hEx hmay ⊢
 apply au.seq (fr':=[(0,.ro c (.pr 3 (l.map pxR)) 1)]) (H':=[some (⟨.pb [],0,none,0,true,false,0⟩:AM.Obj)])
 ·generalize l.map pxR = R at *
  (refine ⟨0,?_⟩;simp (maxSteps:=2000000) -implicitDefEqProofs [-getElem?_pos,go_sem,eqV,aj,aC,rowOf,AO])
 apply au.seq (fr':=[(0,.ro c (.pr 3 (l.map pxR)) 1),(5,.int .i64 e)]) (H':=[some (⟨.pb [],0,none,0,true,false,0⟩:AM.Obj),some obE])
 ·simp only [List.length_singleton,List.singleton_append] at hEx
  generalize l.map pxR = R at *
  generalize o.length = K at *
  (refine ⟨0,?_⟩;simp (maxSteps:=2000000) -implicitDefEqProofs [-getElem?_pos,go_sem,eqV,aj,hEx,aC])
 apply au.assoc
 by_cases he:¬ e = 0
 ·have heb:(e != 0) = true:=by simpa using he
  rw [if_pos he]
  refine au.of (o:=⟨.ret,[(2,.sl 2 0 0 0),(3,.int .i64 e)],[some (⟨.pb [],0,none,0,true,false,0⟩:AM.Obj),some obE,some (⟨.pb [],0,none,0,true,false,0⟩:AM.Obj)]⟩) ?_ ⟨rfl,2,0,_,rfl,rfl,rfl,⟨rfl,rfl,rfl,rfl,rfl⟩⟩
  apply Run.seq (fr':=[(0,.ro c (.pr 3 (l.map pxR)) 1),(5,.int .i64 e),(24,.bool true)]) (H':=[some (⟨.pb [],0,none,0,true,false,0⟩:AM.Obj),some obE])
  ·generalize l.map pxR = R at *
   (refine ⟨0,?_⟩;simp (maxSteps:=2000000) -implicitDefEqProofs [-getElem?_pos,go_sem,eqV,aj,he,heb])
  refine Run.bH ?_ (by simp)
  refine Run.cond (d:=true) (by simp [aK,aI]) ?_
  apply Run.seq (fr':=[(2,.sl 2 0 0 0),(3,.int .i64 e)]) (H':=[some (⟨.pb [],0,none,0,true,false,0⟩:AM.Obj),some obE,some (⟨.pb [],0,none,0,true,false,0⟩:AM.Obj)])
  ·generalize l.map pxR = R at *
   (refine ⟨0,?_⟩;simp (maxSteps:=2000000) -implicitDefEqProofs [-getElem?_pos,go_sem,eqV,aj,aC,rowOf,AO])
  ·exact ⟨0,rfl⟩
 have he:e = 0:=Classical.not_not.1 he
 subst he
 rw [if_neg (by simp)]
 simp only
 have hm:=hmay rfl
 apply au.seq (fr':=[(0,.ro c (.pr 3 (l.map pxR)) 1),(5,.int .i64 0),(24,.bool false)]) (H':=[some (⟨.pb [],0,none,0,true,false,0⟩:AM.Obj),some obE])
 ·generalize l.map pxR = R at *
  (refine ⟨0,?_⟩;simp (maxSteps:=2000000) -implicitDefEqProofs [-getElem?_pos,go_sem,eqV,aj])
 apply au.seq (fr':=[(0,.ro c (.pr 3 (l.map pxR)) 1),(5,.int .i64 0),(24,.bool false)]) (H':=[some (⟨.pb [],0,none,0,true,false,0⟩:AM.Obj),some obE])
 ·exact Run.cond (d:=false) (by simp [aK,aI]) ⟨0,rfl⟩
 have hF:=Xj [some (⟨.pb [],0,none,0,true,false,0⟩:AM.Obj),some obE]
 have hC1:=Jr (H:=[some (⟨.pb [],0,none,0,true,false,0⟩:AM.Obj),some obE,dK 288 flL,dK 32 flD]) (a:=.sl 2 0 288 0) (l:=flL) (by have:=Jt (H:=[some (⟨.pb [],0,none,0,true,false,0⟩:AM.Obj),some obE,dK 288 flL,dK 32 flD]) (o:=2) (l:=flL) rfl;rwa [iY] at this) P7.1
 have hC2:=Jr (H:=[some (⟨.pb [],0,none,0,true,false,0⟩:AM.Obj),some obE,dK 288 flL,dK 32 flD,dK 288 lcL]) (a:=.sl 3 0 32 0) (l:=flD) (by have:=Jt (H:=[some (⟨.pb [],0,none,0,true,false,0⟩:AM.Obj),some obE,dK 288 flL,dK 32 flD,dK 288 lcL]) (o:=3) (l:=flD) rfl;rwa [pU] at this) P7.2.1
 have eL:rJ flL = lcL:=by rw [UJ,WZ]
 have eD:rJ flD = dcL:=by rw [UK,W9]
 rw [iY,eL] at hC1
 rw [pU,eD] at hC2
 simp only [List.length_cons,List.length_nil,List.cons_append,List.nil_append] at hF hC1 hC2
 change evT X _ _ _ = some (_,[_,_,_,_,dK 288 lcL]) at hC1
 change evT X _ _ _ = some (_,[_,_,_,_,_,dK 32 dcL]) at hC2
 have hV:GxV [some (⟨.pb [],0,none,0,true,false,0⟩:AM.Obj),some obE,dK 288 flL,dK 32 flD,dK 288 lcL,dK 32 dcL,some (fM ⟨0,[]⟩ (.ro 0 .pn 0) 0)] 2 3 4 5 6 none ⟨0,[]⟩:=⟨rfl,rfl,rfl,rfl,⟨⟨_,0,.inl rfl,rfl,rfl,0,.inl rfl,rfl⟩,fun a h=>by cases h⟩,by omega,fun a h=>(by cases h),rfl⟩
 generalize dK 288 lcL = r8 at *
 generalize dK 32 dcL = r10 at *
 generalize dK 288 flL = r6 at *
 generalize dK 32 flD = r7 at *
 generalize some (⟨.pb [],0,none,0,true,false,0⟩:AM.Obj) = r0 at *
 apply au.seq (fr':=[(0,.ro c (.pr 3 (l.map pxR)) 1),(6,.sl 2 0 288 0),(7,.sl 3 0 32 0)]) (H':=[r0,some obE,r6,r7])
 ·generalize l.map pxR = R at *
  (refine ⟨0,?_⟩;simp (maxSteps:=2000000) -implicitDefEqProofs [-getElem?_pos,go_sem,eqV,aj,hF,aC])
 apply au.seq (fr':=[(0,.ro c (.pr 3 (l.map pxR)) 1),(6,.sl 2 0 288 0),(7,.sl 3 0 32 0),(8,.sl 4 0 288 0)]) (H':=[r0,some obE,r6,r7,r8])
 ·generalize l.map pxR = R at *
  (refine ⟨0,?_⟩;simp (maxSteps:=2000000) -implicitDefEqProofs [-getElem?_pos,go_sem,eqV,aj,hC1,aC])
 apply au.seq (fr':=[(0,.ro c (.pr 3 (l.map pxR)) 1),(6,.sl 2 0 288 0),(7,.sl 3 0 32 0),(8,.sl 4 0 288 0),(10,.sl 5 0 32 0)]) (H':=[r0,some obE,r6,r7,r8,r10])
 ·generalize l.map pxR = R at *
  (refine ⟨0,?_⟩;simp (maxSteps:=2000000) -implicitDefEqProofs [-getElem?_pos,go_sem,eqV,aj,hC2,aC])
 apply au.seq (fr':=[(0,.ro c (.pr 3 (l.map pxR)) 1),(6,.sl 2 0 288 0),(7,.sl 3 0 32 0),(8,.sl 4 0 288 0),(10,.sl 5 0 32 0),(12,.ptr 6 0 0 0)]) (H':=[r0,some obE,r6,r7,r8,r10,some (fM ⟨0,[]⟩ (.ro 0 .pn 0) 0)])
 ·simp only [fM]
  generalize l.map pxR = R at *
  (refine ⟨0,?_⟩;simp (maxSteps:=2000000) -implicitDefEqProofs [-getElem?_pos,go_sem,eqV,aj,ad8,aC])
 clear hC1 hC2 hF hEx
 generalize [r0,some obE,r6,r7,r8,r10,some (fM ⟨0,[]⟩ (.ro 0 .pn 0) 0)] = E0 at *
 obtain ⟨E1,oa1,g1,g2,g3⟩:=vW (x:=1) (I:=1) (n:=1) rfl hV.wr hV.ok (by simp) (by omega)
 have hV1:=hV.step g2 g3 (bT hV.ok 1).1
 apply au.seq (fr':=[(0,.ro c (.pr 3 (l.map pxR)) 1),(6,.sl 2 0 288 0),(7,.sl 3 0 32 0),(8,.sl 4 0 288 0),(10,.sl 5 0 32 0),(12,.ptr 6 0 0 0)]) (H':=E1)
 ·generalize l.map pxR = R at *
  (refine ⟨0,?_⟩;simp (maxSteps:=2000000) -implicitDefEqProofs [-getElem?_pos,go_sem,eqV,aj,g1])
 have k1:=(bT (x:=1) hV.ok 1).2
 obtain ⟨E2,oa2,g4,g5,g6⟩:=vW (x:=1) (I:=2) (n:=2) rfl hV1.wr hV1.ok (by rw [k1];simp) (by omega)
 have hV2:=hV1.step g5 g6 (bT hV1.ok 2).1
 have k2:=(bT (x:=1) hV1.ok 2).2
 apply au.seq (fr':=[(0,.ro c (.pr 3 (l.map pxR)) 1),(6,.sl 2 0 288 0),(7,.sl 3 0 32 0),(8,.sl 4 0 288 0),(10,.sl 5 0 32 0),(12,.ptr 6 0 0 0)]) (H':=E2)
 ·generalize l.map pxR = R at *
  (refine ⟨0,?_⟩;simp (maxSteps:=2000000) -implicitDefEqProofs [-getElem?_pos,go_sem,eqV,aj,g4])
 apply au.assoc
 apply au.seq (fr':=gq 2 3 4 5 6 c l 0) (H':=E2)
 ·simp only [gq]
  generalize l.map pxR = R at *
  (refine ⟨0,?_⟩;simp (maxSteps:=2000000) -implicitDefEqProofs [-getElem?_pos,go_sem,eqV,aj])
 have hk3:(cu (cu ⟨0,[]⟩ 1 1) 1 2).k≤100:=by rw [k2,k1];simp
 apply au.andThen (piece (SC (m:=m) (c:=c) hV2 hk3 hl hm) _ rfl)
 rintro fr E3 ⟨oa3,rfl,hV3⟩
 have hk4:=(yh l _ hV2.ok hm).2
 obtain ⟨E4,oa4,hV4,ad9⟩:=U7 (m:=m) (c:=c) (i:=l.length) (l:=l) (tl:=[(49,.bool false)]) hV3 (by omega)
 apply au.seq (piece ad9 _ rfl)
 have hne:=MF hm
 unfold OT at hne ⊢
 obtain ⟨a,g,ob,q1,q2,aea⟩:=U8 (m:=m) hV4 hne
 generalize (uD (l.foldl pxW (cu (cu ⟨0,[]⟩ 1 1) 1 2)) lcL flL 256).o = B at *
 apply au.seq (piece aea _ rfl)
 exact au.of (o:=⟨.ret,[(2,.sl a 0 B.length g),(3,.int .i64 0)],E4⟩) ⟨0,rfl⟩ ⟨rfl,a,g,ob,rfl,rfl,q1,q2⟩
theorem Oi {H:AM.Heap} {a:AV} (ha:iD H a = some (.pr 3 (l.map pxR))) (hl:l.length≤2000):∃ ob,Rw (.pb (iT l).1) 0 ob∧evT X 28 [a] H = some (.tup [.sl H.length 0 (iT l).1.length 0,.int .i64 (iT l).2],H ++ [some ob]):=by
 obtain ⟨c,x,hx⟩:=fJ (C:=X) (f:=28) (i:=0) rfl ha (dQ 1)
 obtain ⟨code,hc,⟨out,⟨ho,a2,g,ob,h2,h3,h4,hw⟩,hrun⟩⟩:=Ju (m:=0) (c:=c) (l:=l) hl
 obtain ⟨ob',q1,q2⟩:=Ev1.Fq (C:=X) (H:=H) (bJ X) (n:=(iT l).1.length) (l:=(iT l).1) (rest:=[.int .i64 (iT l).2]) Try.func28 hc hx rfl (by simp [dJ]) rfl rfl rfl (by
  rw [WT]
  refine ⟨out,⟨ho,a2,g,ob,?_,h4,hw⟩,hrun⟩
  show bf X out.fr out.H [.tmp 2,.tmp 3] = _
  simp [bf,h2,h3])
 exact ⟨ob',q1,eH (by simpa [aW,gG] using q2)⟩
end
end Go.Proofs.Yteblpjhkgdpchaa
