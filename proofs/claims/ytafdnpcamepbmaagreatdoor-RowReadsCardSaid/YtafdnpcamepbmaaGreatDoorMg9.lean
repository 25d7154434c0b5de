/- D7 to TD: texts of this claim, one behind the other; what each shows stands at its head. -/
import Derived.Test.YtafdnpcamepbmaaGreatDoorAm3
import Derived.Test.YtafdnpcamepbmaaGreatDoorMg8
set_option linter.unusedSimpArgs false
set_option linter.unusedVariables false
set_option maxRecDepth 100000
set_option maxHeartbeats 8000000
namespace Go.Proofs.YtafdnpcamepbmaaGreatDoor
open Go.AM
def smT (k:Nat):List UInt8:=if k < 10 then [UInt8.ofNat (48 + k)] else [UInt8.ofNat (48 + k / 10),UInt8.ofNat (48 + k % 10)]
theorem smT_eq {k:Nat} (h:k < 100):smT k = decB k:=by
  unfold smT decB
  by_cases h1:k < 10
  · rw [if_pos h1]
    have:ndN k = 1:=by unfold ndN;rw [if_pos h1]
    rw [this,dgs_one,Nat.mod_eq_of_lt h1];rfl
  · rw [if_neg h1]
    have:ndN k = 2:=by
      unfold ndN;rw [if_neg h1];unfold ndN;rw [if_pos (by omega)]
    rw [this,dgs_two,Nat.mod_eq_of_lt (show k / 10 < 10 by omega)];rfl
theorem numS_ev {H:AM.Heap} {k:Nat} (h:k < 100):evT X 78 [.int .i64 (k:Nat)] H = some (.str (decB k),H):=by
  rw [← smT_eq h]
  exact evT_eq (Ev1.each (T:=fun _ _ _=>none) Below.none (n:=100) (N:=100) (a:=fun k=>.int .i64 (k:Nat)) (v:=fun k=>.str (smT k)) (by kernel_rfl) (fun _=>rfl) h H)
theorem al24:zeroAV X 102 = .agg (.pb (List.replicate 24 0)):=by kernel_rfl
section
variable (x:Nat)
theorem fmtU_code (hx:x < 18446744073709551616):∃ code,Tryz.f67.body = some code ∧
    Tells (Rets fun fr H=>getF fr 4 = .str (decB x)) X (evT X) 67 0 code [(0,.int .u64 (x:Nat)),(1,.int .i64 10)] []:=by
  refine ⟨_,rfl,?_⟩
  apply Tells.seq (fr':=[(0,.int .u64 (x:Nat)),(1,.int .i64 10)]) (H':=[])
  · (refine ⟨0,?_⟩;simp (maxSteps:=2000000) -implicitDefEqProofs [-getElem?_pos,go_sem,eqV,plen])
  apply Tells.assoc
  apply Tells.seq (fr':=[(0,.int .u64 (x:Nat)),(1,.int .i64 10),(10,.bool true)]) (H':=[])
  · (refine ⟨0,?_⟩;simp (maxSteps:=2000000) -implicitDefEqProofs [-getElem?_pos,go_sem,eqV,plen])
  refine Tells.seqOut (Tells.condT rfl ?_) (fun o h=>by rw [h.1];simp)
  by_cases h:x < 100
  · have hI:(x:Int) < 100:=by omega
    have hS:=fun H=>numS_ev (H:=H) h
    have w:IntKind.i64.wrap (x:Int) = (x:Int):=wrap_i64 (by omega) (by omega)
    refine Tells.of (o:=⟨.ret,[(4,.str (decB x))],[]⟩) ⟨0,?_⟩ ⟨rfl,rfl⟩
    simp (maxSteps:=2000000) -implicitDefEqProofs [-getElem?_pos,go_sem,eqV,plen,h,hI,hS,w]
  have hI:¬ (x:Int) < 100:=by omega
  apply Tells.assoc
  apply Tells.seq (fr':=[(0,.int .u64 (x:Nat)),(12,.bool false)]) (H':=[])
  · (refine ⟨0,?_⟩;simp (maxSteps:=2000000) -implicitDefEqProofs [-getElem?_pos,go_sem,eqV,plen,h,hI])
  apply Tells.seq (fr':=[(0,.int .u64 (x:Nat)),(12,.bool false)]) (H':=[])
  · exact Run.cond (d:=false) rfl ⟨0,rfl⟩
  obtain ⟨Z,hZ⟩:∃ Z,Z = List.replicate 24 (0:UInt8):=⟨_,rfl⟩
  have hal:zeroAV X 102 = .agg (.pb Z):=by rw [hZ];exact al24
  have hZl:Z.length = 24:=by rw [hZ];simp
  apply Tells.seq (fr':=[(0,.int .u64 (x:Nat)),(5,.ptr 0 0 0 0)]) (H':=[some (fbP Z)])
  · unfold fbP
    (refine ⟨0,?_⟩;simp (maxSteps:=2000000) -implicitDefEqProofs [-getElem?_pos,go_sem,eqV,plen,hal,boxOf,newBox,hasIdsP,hZl])
  obtain ⟨hn20,hN⟩:=numD_ev (H:=[some (fbP Z)]) (x:=x) (by omega) hx
  obtain ⟨B',hS,hF⟩:=fb_ev (H:=[some (fbP Z)]) (o:=0) (off:=0) (nd:=ndN x) (u:=x) (B:=Z) rfl (ndN_pos x) (ndN_lt x) hx (by omega) (by omega)
  have hd:=hS.2
  have hlen:B'.length = 24:=by rw [hS.1,hZl]
  simp only [Nat.zero_add,Nat.add_zero,Nat.sub_zero,List.drop_zero] at hd
  unfold decB
  rw [← hd]
  have hF':evT X 80 [.sl 0 0 (ndN x) 0,.int .u64 (x:Nat)] [some (fbP Z)] = some (.tup [],[some (fbP B')]):=hF
  clear hF hS hd hal hZ
  generalize ndN x = nd at *
  apply Tells.seq (fr':=[(0,.int .u64 (x:Nat)),(5,.ptr 0 0 0 0),(6,.int .i64 (nd:Nat))]) (H':=[some (fbP Z)])
  · generalize fbP Z = P at *
    (refine ⟨0,?_⟩;simp (maxSteps:=2000000) -implicitDefEqProofs [-getElem?_pos,go_sem,eqV,plen,hN])
  have n24:(nd:Int)≤24:=by omega
  have n24N:nd≤24:=by omega
  apply Tells.seq (fr':=[(5,.ptr 0 0 0 0),(6,.int .i64 (nd:Nat))]) (H':=[some (fbP B')])
  · unfold fbP at hF' ⊢
    (refine ⟨0,?_⟩;simp (maxSteps:=2000000) -implicitDefEqProofs [-getElem?_pos,go_sem,eqV,plen,hF',n24,n24N,sliceV,bound,hZl])
  refine Tells.of (o:=⟨.ret,[(4,.str (B'.take nd))],[some (fbP B')]⟩) ⟨0,?_⟩ ⟨rfl,rfl⟩
  have nl:nd≤B'.length:=by omega
  unfold fbP
  simp (maxSteps:=2000000) -implicitDefEqProofs [-getElem?_pos,go_sem,eqV,plen,n24,n24N,sliceV,bound,hlen,nl,readSl,isU8,psub]
end
theorem fmtU_ev {H:AM.Heap} {x:Nat} (hx:x < 18446744073709551616):evT X 67 [.int .u64 (x:Nat),.int .i64 10] H = some (.str (decB x),H):=by
  obtain ⟨code,hcode,o,⟨he,h4⟩,hr⟩:=fmtU_code x hx
  exact evT_eq (Ev1.toldP (l:=[.str (decB x)]) (evT_below X) Tryz.func67 hcode (args_flat (i:=0) rfl rfl (args_flat (i:=1) rfl rfl (args_nil 2))) rfl (by simp [gtag]) rfl rfl rfl ⟨o,⟨he,by show some [getF o.fr 4] = _;rw [h4]⟩,hr⟩)
section
variable (x:Int)
theorem fmtI_code (h1:-9223372036854775808≤x) (h2:x < 9223372036854775808):∃ code,Tryz.f66.body = some code ∧
    Tells (Rets fun fr H=>getF fr 4 = .str (intB x)) X (evT X) 66 0 code [(0,.int .i64 x),(1,.int .i64 10)] []:=by
  refine ⟨_,rfl,?_⟩
  apply Tells.seq (fr':=[(0,.int .i64 x),(1,.int .i64 10)]) (H':=[])
  · (refine ⟨0,?_⟩;simp (maxSteps:=2000000) -implicitDefEqProofs [-getElem?_pos,go_sem,eqV,plen])
  apply Tells.assoc
  apply Tells.seq (fr':=[(0,.int .i64 x),(1,.int .i64 10),(11,.bool true)]) (H':=[])
  · (refine ⟨0,?_⟩;simp (maxSteps:=2000000) -implicitDefEqProofs [-getElem?_pos,go_sem,eqV,plen])
  refine Tells.seqOut (Tells.condT rfl ?_) (fun o h=>by rw [h.1];simp)
  by_cases hs:0≤x∧x < 100
  · obtain ⟨g1,g2⟩:=hs
    obtain ⟨k,rfl⟩:∃ k:Nat,x = (k:Int):=⟨x.toNat,by omega⟩
    have hS:=fun H=>numS_ev (H:=H) (k:=k) (by omega)
    have hi:intB (k:Int) = decB k:=by unfold intB;rw [if_neg (by omega)];rfl
    rw [hi]
    refine Tells.of (o:=⟨.ret,[(4,.str (decB k))],[]⟩) ⟨0,?_⟩ ⟨rfl,rfl⟩
    have g2N:k < 100:=by omega
    simp (maxSteps:=2000000) -implicitDefEqProofs [-getElem?_pos,go_sem,eqV,plen,g1,g2,g2N,hS]
  apply Tells.assoc
  apply Tells.seq (fr':=[(0,.int .i64 x),(17,.bool false)]) (H':=[])
  · by_cases g1:0≤x
    · have g2:¬ x < 100:=by omega
      (refine ⟨0,?_⟩;simp (maxSteps:=2000000) -implicitDefEqProofs [-getElem?_pos,go_sem,eqV,plen,g1,g2])
    · (refine ⟨0,?_⟩;simp (maxSteps:=2000000) -implicitDefEqProofs [-getElem?_pos,go_sem,eqV,plen,g1])
  apply Tells.seq (fr':=[(0,.int .i64 x),(17,.bool false)]) (H':=[])
  · exact Run.cond (d:=false) rfl ⟨0,rfl⟩
  obtain ⟨Z,hZ⟩:∃ Z,Z = List.replicate 24 (0:UInt8):=⟨_,rfl⟩
  have hal:zeroAV X 102 = .agg (.pb Z):=by rw [hZ];exact al24
  have hZl:Z.length = 24:=by rw [hZ];simp
  apply Tells.seq (fr':=[(0,.int .i64 x),(5,.ptr 0 0 0 0)]) (H':=[some (fbP Z)])
  · unfold fbP
    (refine ⟨0,?_⟩;simp (maxSteps:=2000000) -implicitDefEqProofs [-getElem?_pos,go_sem,eqV,plen,hal,boxOf,newBox,hasIdsP,hZl])
  obtain ⟨u,hu⟩:∃ u:Nat,u = x.natAbs:=⟨_,rfl⟩
  have hi:intB x = if x < 0 then 45 :: decB u else decB u:=by
    unfold intB
    by_cases h:x < 0
    · rw [if_pos h,if_pos h,show (-x).toNat = u by omega]
    · rw [if_neg h,if_neg h,show x.toNat = u by omega]
  have hu0:0 < u:=by omega
  have hu64:u < 18446744073709551616:=by omega
  apply Tells.seq (fr':=[(0,.int .i64 x),(5,.ptr 0 0 0 0),(6,.int .u64 (IntKind.u64.wrap x))]) (H':=[some (fbP Z)])
  · generalize fbP Z = P at *
    (refine ⟨0,?_⟩;simp (maxSteps:=2000000) -implicitDefEqProofs [-getElem?_pos,go_sem,eqV,plen])
  apply Tells.assoc
  apply Tells.seq (fr':=[(0,.int .i64 x),(5,.ptr 0 0 0 0),(6,.int .u64 (IntKind.u64.wrap x)),(23,.bool (decide (x < 0)))]) (H':=[some (fbP Z)])
  · generalize IntKind.u64.wrap x = w at *
    generalize fbP Z = P at *
    (refine ⟨0,?_⟩;simp (maxSteps:=2000000) -implicitDefEqProofs [-getElem?_pos,go_sem,eqV,plen])
  apply Tells.seq (fr':=[(0,.int .i64 x),(5,.ptr 0 0 0 0),(6,.int .u64 (u:Nat))] ++ (if x < 0 then [] else [(23,.bool false)])) (H':=[some (fbP Z)])
  · by_cases h:x < 0
    · rw [if_pos h,show decide (x < 0) = true from decide_eq_true h]
      have w1:IntKind.u64.wrap (0 - IntKind.u64.wrap x) = (u:Int):=by
        unfold IntKind.wrap;simp [IntKind.signed,IntKind.bits];omega
      have w1':IntKind.u64.wrap (-IntKind.u64.wrap x) = (u:Int):=by
        unfold IntKind.wrap;simp [IntKind.signed,IntKind.bits];omega
      refine Run.cond (d:=true) rfl ?_
      generalize IntKind.u64.wrap x = w at *
      generalize fbP Z = P at *
      (refine ⟨0,?_⟩;simp (maxSteps:=2000000) -implicitDefEqProofs [-getElem?_pos,go_sem,eqV,plen,unV,w1,w1'])
    · rw [if_neg h,show decide (x < 0) = false from decide_eq_false h]
      have w1:IntKind.u64.wrap x = (u:Int):=by
        unfold IntKind.wrap;simp [IntKind.signed,IntKind.bits];omega
      rw [w1]
      exact Run.cond (d:=false) rfl ⟨0,rfl⟩
  obtain ⟨hn20,hN⟩:=numD_ev (H:=[some (fbP Z)]) (x:=u) hu0 hu64
  obtain ⟨B',hS,hF⟩:=fb_ev (H:=[some (fbP Z)]) (o:=0) (off:=1) (nd:=ndN u) (u:=u) (B:=Z) rfl (ndN_pos u) (ndN_lt u) hu64 (by omega) (by omega)
  have hd:=hS.2
  have hlen:B'.length = 24:=by rw [hS.1,hZl]
  simp only [Nat.zero_add,Nat.add_zero,Nat.sub_zero] at hd
  have hF':evT X 80 [.sl 0 1 (ndN u) 0,.int .u64 (u:Nat)] [some (fbP Z)] = some (.tup [],[some (fbP B')]):=hF
  have hdec:decB u = (B'.drop 1).take (ndN u):=by unfold decB;exact hd.symm
  rw [hdec] at hi
  clear hF hS hd hal hZ hdec
  generalize ndN u = nd at *
  have w2:IntKind.i64.wrap (1 + (nd:Int)) = ((1 + nd:Nat):Int):=by rw [wrap_i64 (by omega) (by omega)];omega
  obtain ⟨n1,hn1⟩:∃ n1,n1 = 1 + nd:=⟨_,rfl⟩
  rw [← hn1] at w2
  have m24:(n1:Int)≤24:=by omega
  have m24N:n1≤24:=by omega
  have m1:(1:Int)≤(n1:Int):=by omega
  have m1N:1≤n1:=by omega
  have mn:n1 - 1 = nd:=by omega
  have nl:1 + nd≤B'.length:=by omega
  have nl2:n1≤B'.length:=by omega
  have nl24:1 + nd≤24:=by omega
  apply Tells.seq (fr':=[(0,.int .i64 x),(5,.ptr 0 0 0 0),(6,.int .u64 (u:Nat)),(7,.int .i64 (nd:Nat))]) (H':=[some (fbP Z)])
  · generalize fbP Z = P at *
    by_cases h:x < 0
    · rw [if_pos h]
      (refine ⟨0,?_⟩;simp (maxSteps:=2000000) -implicitDefEqProofs [-getElem?_pos,go_sem,eqV,plen,hN])
    · rw [if_neg h]
      (refine ⟨0,?_⟩;simp (maxSteps:=2000000) -implicitDefEqProofs [-getElem?_pos,go_sem,eqV,plen,hN])
  apply Tells.seq (fr':=[(0,.int .i64 x),(5,.ptr 0 0 0 0),(7,.int .i64 (nd:Nat))]) (H':=[some (fbP B')])
  · unfold fbP at hF' ⊢
    (refine ⟨0,?_⟩;simp (maxSteps:=2000000) -implicitDefEqProofs [-getElem?_pos,go_sem,eqV,plen,hF',w2,m24,m24N,m1,m1N,mn,sliceV,bound,hZl])
  rw [hi]
  apply Tells.assoc
  by_cases h:x < 0
  · rw [if_pos h]
    apply Tells.seq (fr':=[(5,.ptr 0 0 0 0),(7,.int .i64 (nd:Nat)),(34,.bool true)]) (H':=[some (fbP B')])
    · generalize fbP B' = P at *
      (refine ⟨0,?_⟩;simp (maxSteps:=2000000) -implicitDefEqProofs [-getElem?_pos,go_sem,eqV,plen,h])
    refine Tells.seqOut (Tells.condT rfl ?_) (fun o h=>by rw [h.1];simp)
    refine Tells.of (o:=⟨.ret,[(4,.str (45 :: (B'.drop 1).take nd))],[some (fbP (B'.set 0 45))]⟩) ⟨0,?_⟩ ⟨rfl,rfl⟩
    have hset:(B'.set 0 45).take n1 = 45 :: (B'.drop 1).take nd:=by
      cases B' with
      | nil=>simp at hlen
      | cons y r=>rw [hn1,Nat.add_comm];simp
    have hsl:(B'.set 0 45).length = 24:=by simp [hlen]
    have b0:0 < B'.length:=by omega
    have nl3:n1≤(B'.set 0 45).length:=by omega
    have u45:UInt8.ofNat 45 = 45:=rfl
    unfold fbP
    simp (maxSteps:=2000000) -implicitDefEqProofs [-getElem?_pos,go_sem,eqV,plen,b0,pset,joinTag,w2,m24,m24N,sliceV,bound,hlen,hsl,hset,readSl,isU8,psub]
  · rw [if_neg h]
    apply Tells.seq (fr':=[(5,.ptr 0 0 0 0),(7,.int .i64 (nd:Nat)),(34,.bool false)]) (H':=[some (fbP B')])
    · generalize fbP B' = P at *
      (refine ⟨0,?_⟩;simp (maxSteps:=2000000) -implicitDefEqProofs [-getElem?_pos,go_sem,eqV,plen,h])
    apply Tells.seq (fr':=[(5,.ptr 0 0 0 0),(7,.int .i64 (nd:Nat)),(34,.bool false)]) (H':=[some (fbP B')])
    · exact Run.cond (d:=false) rfl ⟨0,rfl⟩
    refine Tells.of (o:=⟨.ret,[(4,.str ((B'.drop 1).take nd))],[some (fbP B')]⟩) ⟨0,?_⟩ ⟨rfl,rfl⟩
    unfold fbP
    simp (maxSteps:=2000000) -implicitDefEqProofs [-getElem?_pos,go_sem,eqV,plen,w2,m24,m24N,m1,m1N,mn,sliceV,bound,hlen,nl,nl2,nl24,readSl,isU8,psub]
end
theorem fmtI_ev {H:AM.Heap} {x:Int} (h1:-9223372036854775808≤x) (h2:x < 9223372036854775808):evT X 66 [.int .i64 x,.int .i64 10] H = some (.str (intB x),H):=by
  obtain ⟨code,hcode,o,⟨he,h4⟩,hr⟩:=fmtI_code x h1 h2
  exact evT_eq (Ev1.toldP (l:=[.str (intB x)]) (evT_below X) Tryz.func66 hcode (args_flat (i:=0) rfl rfl (args_flat (i:=1) rfl rfl (args_nil 2))) rfl (by simp [gtag]) rfl rfl rfl ⟨o,⟨he,by show some [getF o.fr 4] = _;rw [h4]⟩,hr⟩)
theorem sfmtU_code (x:Nat) (hx:x < 18446744073709551616):∃ code,Tryz.f48.body = some code ∧
    Tells (Rets fun fr H=>getF fr 4 = .str (decB x)) X (evT X) 48 0 code [(0,.int .u64 (x:Nat)),(1,.int .i64 10)] []:=by
  refine ⟨_,rfl,?_⟩
  have hF:=fun H=>fmtU_ev (H:=H) hx
  refine Tells.of (o:=⟨.ret,[(4,.str (decB x))],[]⟩) ⟨0,?_⟩ ⟨rfl,rfl⟩
  simp (maxSteps:=2000000) -implicitDefEqProofs [-getElem?_pos,go_sem,eqV,plen,hF]
theorem sfmtU_ev {H:AM.Heap} {x:Nat} (hx:x < 18446744073709551616):evT X 48 [.int .u64 (x:Nat),.int .i64 10] H = some (.str (decB x),H):=by
  obtain ⟨code,hcode,o,⟨he,h4⟩,hr⟩:=sfmtU_code x hx
  exact evT_eq (Ev1.toldP (l:=[.str (decB x)]) (evT_below X) Tryz.func48 hcode (args_flat (i:=0) rfl rfl (args_flat (i:=1) rfl rfl (args_nil 2))) rfl (by simp [gtag]) rfl rfl rfl ⟨o,⟨he,by show some [getF o.fr 4] = _;rw [h4]⟩,hr⟩)
theorem sfmtI_code (x:Int) (h1:-9223372036854775808≤x) (h2:x < 9223372036854775808):∃ code,Tryz.f47.body = some code ∧
    Tells (Rets fun fr H=>getF fr 4 = .str (intB x)) X (evT X) 47 0 code [(0,.int .i64 x),(1,.int .i64 10)] []:=by
  refine ⟨_,rfl,?_⟩
  have hF:=fun H=>fmtI_ev (H:=H) h1 h2
  refine Tells.of (o:=⟨.ret,[(4,.str (intB x))],[]⟩) ⟨0,?_⟩ ⟨rfl,rfl⟩
  simp (maxSteps:=2000000) -implicitDefEqProofs [-getElem?_pos,go_sem,eqV,plen,hF]
theorem sfmtI_ev {H:AM.Heap} {x:Int} (h1:-9223372036854775808≤x) (h2:x < 9223372036854775808):evT X 47 [.int .i64 x,.int .i64 10] H = some (.str (intB x),H):=by
  obtain ⟨code,hcode,o,⟨he,h4⟩,hr⟩:=sfmtI_code x h1 h2
  exact evT_eq (Ev1.toldP (l:=[.str (intB x)]) (evT_below X) Tryz.func47 hcode (args_flat (i:=0) rfl rfl (args_flat (i:=1) rfl rfl (args_nil 2))) rfl (by simp [gtag]) rfl rfl rfl ⟨o,⟨he,by show some [getF o.fr 4] = _;rw [h4]⟩,hr⟩)
theorem iItoa_code (x:Int) (h1:-9223372036854775808≤x) (h2:x < 9223372036854775808):∃ code,Tryz.f93.body = some code ∧
    Tells (Rets fun fr H=>getF fr 2 = .str (intB x)) X (evT X) 93 0 code [(0,.int .i64 x)] []:=by
  refine ⟨_,rfl,?_⟩
  have hF:=fun H=>fmtI_ev (H:=H) h1 h2
  refine Tells.of (o:=⟨.ret,[(2,.str (intB x))],[]⟩) ⟨0,?_⟩ ⟨rfl,rfl⟩
  simp (maxSteps:=2000000) -implicitDefEqProofs [-getElem?_pos,go_sem,eqV,plen,hF]
theorem iItoa_ev {H:AM.Heap} {x:Int} (h1:-9223372036854775808≤x) (h2:x < 9223372036854775808):evT X 93 [.int .i64 x] H = some (.str (intB x),H):=by
  obtain ⟨code,hcode,o,⟨he,h4⟩,hr⟩:=iItoa_code x h1 h2
  exact evT_eq (Ev1.toldP (l:=[.str (intB x)]) (evT_below X) Tryz.func93 hcode (args_flat (i:=0) rfl rfl (args_nil 1)) rfl (by simp [gtag]) rfl rfl rfl ⟨o,⟨he,by show some [getF o.fr 2] = _;rw [h4]⟩,hr⟩)
theorem itoa_code (x:Int) (h1:-9223372036854775808≤x) (h2:x < 9223372036854775808):∃ code,Tryz.f82.body = some code ∧
    Tells (Rets fun fr H=>getF fr 2 = .str (intB x)) X (evT X) 82 0 code [(0,.int .i64 x)] []:=by
  refine ⟨_,rfl,?_⟩
  have hF:=fun H=>iItoa_ev (H:=H) h1 h2
  refine Tells.of (o:=⟨.ret,[(2,.str (intB x))],[]⟩) ⟨0,?_⟩ ⟨rfl,rfl⟩
  simp (maxSteps:=2000000) -implicitDefEqProofs [-getElem?_pos,go_sem,eqV,plen,hF]
theorem itoaD_ev {H:AM.Heap} {x:Int} (h1:-9223372036854775808≤x) (h2:x < 9223372036854775808):evT X 82 [.int .i64 x] H = some (.str (intB x),H):=by
  obtain ⟨code,hcode,o,⟨he,h4⟩,hr⟩:=itoa_code x h1 h2
  exact evT_eq (Ev1.toldP (l:=[.str (intB x)]) (evT_below X) Tryz.func82 hcode (args_flat (i:=0) rfl rfl (args_nil 1)) rfl (by simp [gtag]) rfl rfl rfl ⟨o,⟨he,by show some [getF o.fr 2] = _;rw [h4]⟩,hr⟩)
end Go.Proofs.YtafdnpcamepbmaaGreatDoor
namespace Go.Proofs.YtafdnpcamepbmaaGreatDoor
open Go.AM
theorem rep_all:(List.range 8).all (fun k=>rowRun X (fun _ _ _=>none) 100 ⟨83,[.str [48],.int .i64 (k:Nat)],.str (List.replicate k 48),[]⟩) = true:=by kernel_rfl
theorem rep_ev {H:AM.Heap} {k:Nat} (h:k < 8):evT X 83 [.str [48],.int .i64 (k:Nat)] H = some (.str (List.replicate k 48),H) :=
  evT_eq (Ev1.triedP (T:=fun _ _ _=>none) Below.none (n:=100) (List.all_eq_true.1 rep_all k (List.mem_range.2 h)) rfl H)
section
variable (x n:Nat)
theorem dig_code (hx:x < 1000000000000) (hn:n < 8):∃ code,Tryz.f68.body = some code ∧
    Tells (Rets fun fr H=>getF fr 4 = .str (padB x n)) X (evT X) 68 0 code [(0,.int .i64 (x:Nat)),(1,.int .i64 (n:Nat))] []:=by
  refine ⟨_,rfl,?_⟩
  have hI:=fun H=>itoaD_ev (H:=H) (x:=(x:Int)) (by omega) (by omega)
  have hib:intB (x:Int) = decB x:=by unfold intB;rw [if_neg (by omega)];rfl
  rw [hib] at hI
  have hl:=decB_len x
  have h13:ndN x≤13:=by
    by_cases h0:x = 0
    · subst h0
      have:ndN 0 = 1:=by unfold ndN;rfl
      omega
    · have h1:=ndN_le x (by omega)
      by_cases h:ndN x≤13
      · exact h
      · have:(10:Nat) ^ 13≤10 ^ (ndN x - 1):=Nat.pow_le_pow_right (by omega) (by omega)
        have:(10:Nat) ^ 13 = 10000000000000:=by decide
        omega
  have hR:=rep_ev (H:=[]) (k:=n - ndN x) (by omega)
  have hp:=padB_eq x n
  have w1:IntKind.i64.wrap ((n:Int) - (ndN x:Int)) = (n:Int) - (ndN x:Int):=wrap_i64 (by omega) (by omega)
  have hmx:(if (0:Int) < (n:Int) - (ndN x:Int) then (n:Int) - (ndN x:Int) else 0) = ((n - ndN x:Nat):Int):=by
    split <;> omega
  have hmm:minmax true (.int .i64 0) [.int .i64 ((n:Int) - (ndN x:Int))] = some (.int .i64 ((n - ndN x:Nat):Int)):=by
    simp only [minmax,if_true]
    rw [← hmx]
  have hsl:(List.replicate (n - ndN x) (48:UInt8)).length + ndN x≤9223372036854775807:=by simp;omega
  rw [hp]
  have hal:(List.replicate (n - ndN x) (48:UInt8)).length = n - ndN x:=by simp
  apply Tells.seq (fr':=[(0,.int .i64 (x:Nat)),(1,.int .i64 (n:Nat))]) (H':=[])
  · (refine ⟨0,?_⟩;simp (maxSteps:=2000000) -implicitDefEqProofs [-getElem?_pos,go_sem,eqV,plen])
  generalize decB x = D at *
  generalize List.replicate (n - ndN x) (48:UInt8) = R at *
  generalize ndN x = N at *
  apply Tells.seq (fr':=[(1,.int .i64 (n:Nat)),(5,.str D)]) (H':=[])
  · (refine ⟨0,?_⟩;simp (maxSteps:=2000000) -implicitDefEqProofs [-getElem?_pos,go_sem,eqV,plen,hI])
  generalize hz:n - N = z at *
  refine Tells.of (o:=⟨.ret,[(4,.str (R ++ D))],[]⟩) ⟨0,?_⟩ ⟨rfl,rfl⟩
  rw [← hl] at w1 hmm hsl
  simp (maxSteps:=2000000) -implicitDefEqProofs [-getElem?_pos,go_sem,eqV,plen,w1,hmm,hR,hsl,strOp]
end
theorem dig_ev {H:AM.Heap} {x n:Nat} (hx:x < 1000000000000) (hn:n < 8):evT X 68 [.int .i64 (x:Nat),.int .i64 (n:Nat)] H = some (.str (padB x n),H):=by
  obtain ⟨code,hcode,o,⟨he,h4⟩,hr⟩:=dig_code x n hx hn
  exact evT_eq (Ev1.toldP (l:=[.str (padB x n)]) (evT_below X) Tryz.func68 hcode (args_flat (i:=0) rfl rfl (args_flat (i:=1) rfl rfl (args_nil 2))) rfl (by simp [gtag]) rfl rfl rfl ⟨o,⟨he,by show some [getF o.fr 4] = _;rw [h4]⟩,hr⟩)
def usT (us:Nat):List UInt8:=if us = 0 then [] else 46 :: padB us 6
theorem mic_code (x:Nat) (hx:x < 1000000):∃ code,Tryz.f69.body = some code ∧
    Tells (Rets fun fr H=>getF fr 2 = .str (usT x)) X (evT X) 69 0 code [(0,.int .i64 (x:Nat))] []:=by
  refine ⟨_,rfl,?_⟩
  by_cases h:x = 0
  · subst h
    refine Tells.of (o:=⟨.ret,[(2,.str (usT 0))],[]⟩) ⟨0,?_⟩ ⟨rfl,rfl⟩
    rw [show usT 0 = [] from rfl]
    simp (maxSteps:=2000000) -implicitDefEqProofs [-getElem?_pos,go_sem,eqV,plen]
  · have hD:=dig_ev (H:=[]) (x:=x) (n:=6) (by omega) (by omega)
    have hl:(padB x 6).length = 6:=by rw [padB_of (by omega) (by omega),dgs_len]
    simp only [Int.cast_ofNat_Int] at hD
    refine Tells.of (o:=⟨.ret,[(2,.str (usT x))],[]⟩) ⟨0,?_⟩ ⟨rfl,rfl⟩
    rw [show usT x = 46 :: padB x 6 by unfold usT;rw [if_neg h]]
    generalize padB x 6 = D at *
    have h1:((x:Int) == 0) = false:=by simp;omega
    simp (maxSteps:=2000000) -implicitDefEqProofs [-getElem?_pos,go_sem,eqV,plen,h,h1,hD,hl,strOp]
theorem mic_ev {H:AM.Heap} {x:Nat} (hx:x < 1000000):evT X 69 [.int .i64 (x:Nat)] H = some (.str (usT x),H):=by
  obtain ⟨code,hcode,o,⟨he,h4⟩,hr⟩:=mic_code x hx
  exact evT_eq (Ev1.toldP (l:=[.str (usT x)]) (evT_below X) Tryz.func69 hcode (args_flat (i:=0) rfl rfl (args_nil 1)) rfl (by simp [gtag]) rfl rfl rfl ⟨o,⟨he,by show some [getF o.fr 2] = _;rw [h4]⟩,hr⟩)
end Go.Proofs.YtafdnpcamepbmaaGreatDoor
namespace Go.Proofs.YtafdnpcamepbmaaGreatDoor
open Go.AM
theorem catS {x y z:List UInt8} (h:x.length + y.length≤1000) (hz:x ++ y = z):strOp .add x y = some (.str z):=by
  subst hz
  simp only [strOp]
  rw [if_pos (by omega)]
theorem padB_len {x n:Nat} (hx:x < 10000000000) (hn:n≤8):(padB x n).length≤20:=by
  unfold padB
  rw [dgs_len]
  have h13:ndN x≤13:=by
    by_cases h0:x = 0
    · subst h0
      have:ndN 0 = 1:=by unfold ndN;rfl
      omega
    · have h1:=ndN_le x (by omega)
      by_cases h:ndN x≤13
      · exact h
      · have:(10:Nat) ^ 13≤10 ^ (ndN x - 1):=Nat.pow_le_pow_right (by omega) (by omega)
        have:(10:Nat) ^ 13 = 10000000000000:=by decide
        omega
  omega
theorem padB_len_big {x:Nat} (hx:x < 18446744073709551616):(padB x 1).length≤20:=by
  unfold padB
  rw [dgs_len]
  have h20:ndN x≤20:=by
    by_cases h0:x = 0
    · subst h0
      have:ndN 0 = 1:=by unfold ndN;rfl
      omega
    · have h1:=ndN_le x (by omega)
      by_cases h:ndN x≤20
      · exact h
      · have:(10:Nat) ^ 20≤10 ^ (ndN x - 1):=Nat.pow_le_pow_right (by omega) (by omega)
        have:(10:Nat) ^ 20 = 100000000000000000000:=by decide
        omega
  omega
def ckT (w:Wh):List UInt8:=58 :: (padB w.mi.toNat 2 ++ 58 :: (padB w.s.toNat 2 ++ usT w.us.toNat))
def dyT (w:Wh):List UInt8:=padB w.y.toNat 4 ++ 45 :: (padB w.mo.toNat 2 ++ 45 :: padB w.d.toNat 2)
def wtB (w:Wh) (t:Nat):List UInt8 :=
  if t = 11 then (if w.neg then [45] else []) ++ (padB (24 * w.d.toNat + w.h.toNat) 2 ++ ckT w)
  else if t = 10 then dyT w else dyT w ++ 32 :: (padB w.h.toNat 2 ++ ckT w)
structure WOk (w:Wh):Prop where
  y:0≤w.y∧w.y < 65536
  mo:0≤w.mo∧w.mo < 256
  d:0≤w.d∧w.d < 256
  h:0≤w.h∧w.h < 256
  mi:0≤w.mi∧w.mi < 256
  s:0≤w.s∧w.s < 256
  us:0≤w.us∧w.us < 1000000
theorem usT_len {x:Nat} (h:x < 1000000):(usT x).length≤21:=by
  unfold usT
  split
  · simp
  · have:=padB_len (x:=x) (n:=6) (by omega) (by omega)
    simp only [List.length_cons];omega
section
variable (w:Wh)
theorem wt_r1 (t:Nat) (hw:WOk w):∃ code,((Tryz.f49.body).bind (codeAt [1,0])) = some code∧Run X (evT X) 49 0 code [(1,.int .u8 (t:Nat)),(2,.ptr 0 0 0 0)] [some (whO w)] ⟨.normal,[(1,.int .u8 (t:Nat)),(2,.ptr 0 0 0 0),(5,.str (ckT w))],[some (whO w)]⟩:=by
  refine ⟨_,rfl,?_⟩
  obtain ⟨m,hm⟩:∃ m:Nat,w.mi = (m:Int):=⟨w.mi.toNat,by have:=hw.mi;omega⟩
  obtain ⟨s,hs⟩:∃ m:Nat,w.s = (m:Int):=⟨w.s.toNat,by have:=hw.s;omega⟩
  obtain ⟨u,hu⟩:∃ m:Nat,w.us = (m:Int):=⟨w.us.toNat,by have:=hw.us;omega⟩
  have b1:=hw.mi;have b2:=hw.s;have b3:=hw.us
  rw [hm] at b1;rw [hs] at b2;rw [hu] at b3
  have e1:=dig_ev (H:=[some (whO w)]) (x:=m) (n:=2) (by omega) (by omega)
  have e2:=dig_ev (H:=[some (whO w)]) (x:=s) (n:=2) (by omega) (by omega)
  have e3:=mic_ev (H:=[some (whO w)]) (x:=u) (by omega)
  have l1:=padB_len (x:=m) (n:=2) (by omega) (by omega)
  have l2:=padB_len (x:=s) (n:=2) (by omega) (by omega)
  have l3:=usT_len (x:=u) (by omega)
  unfold ckT
  rw [hm,hs,hu]
  simp only [Int.toNat_natCast,Int.cast_ofNat_Int] at e1 e2 ⊢
  generalize padB m 2 = A at *
  generalize padB s 2 = B at *
  generalize usT u = D at *
  have c1:strOp .add [58] A = some (.str (58 :: A)):=catS (by simp;omega) rfl
  have c2:strOp .add (58 :: A) [58] = some (.str (58 :: (A ++ [58]))):=catS (by simp;omega) rfl
  have c3:strOp .add (58 :: (A ++ [58])) B = some (.str (58 :: (A ++ 58 :: B))):=catS (by simp;omega) (by simp)
  have c4:strOp .add (58 :: (A ++ 58 :: B)) D = some (.str (58 :: (A ++ 58 :: (B ++ D)))):=catS (by simp;omega) (by simp)
  apply Run.dy (by simp) keep49_1 (by simp)
  · simp only [whO,Wh.pay,hm,hs,hu] at e1 e2 e3 ⊢
    (conv=>lhs;simp (maxSteps:=2000000) -implicitDefEqProofs [-getElem?_pos,go_sem,eqV,plen,runD,out1,markOf,freeO,quietO,pushes,isAssign,calledV,touched,mentioned,opVals,touchCall,mentionCall,idsAt,Op.operands,ids,idsL,lendArgs,lendV,lend1,lendL,eqH_self,e1,e2,e3,c1,c2,c3,c4,reach_none])
  · kernel_rfl
  · rfl
theorem wt_r7 (t:Nat) (K:List UInt8) (hw:WOk w):∃ code,((Tryz.f49.body).bind (codeAt [1,1,1,0])) = some code∧∃ tl,Run X (evT X) 49 0 code [(1,.int .u8 (t:Nat)),(2,.ptr 0 0 0 0),(5,.str K),(22,.bool false)] [some (whO w)] ⟨.normal,[(1,.int .u8 (t:Nat)),(2,.ptr 0 0 0 0),(5,.str K),(7,.str (dyT w))] ++ tl,[some (whO w)]⟩:=by
  refine ⟨_,rfl,[],?_⟩
  obtain ⟨y,hy⟩:∃ m:Nat,w.y = (m:Int):=⟨w.y.toNat,by have:=hw.y;omega⟩
  obtain ⟨mo,hmo⟩:∃ m:Nat,w.mo = (m:Int):=⟨w.mo.toNat,by have:=hw.mo;omega⟩
  obtain ⟨d,hd⟩:∃ m:Nat,w.d = (m:Int):=⟨w.d.toNat,by have:=hw.d;omega⟩
  have b1:=hw.y;have b2:=hw.mo;have b3:=hw.d
  rw [hy] at b1;rw [hmo] at b2;rw [hd] at b3
  have e1:=dig_ev (H:=[some (whO w)]) (x:=y) (n:=4) (by omega) (by omega)
  have e2:=dig_ev (H:=[some (whO w)]) (x:=mo) (n:=2) (by omega) (by omega)
  have e3:=dig_ev (H:=[some (whO w)]) (x:=d) (n:=2) (by omega) (by omega)
  have l1:=padB_len (x:=y) (n:=4) (by omega) (by omega)
  have l2:=padB_len (x:=mo) (n:=2) (by omega) (by omega)
  have l3:=padB_len (x:=d) (n:=2) (by omega) (by omega)
  unfold dyT
  rw [hy,hmo,hd]
  simp only [Int.toNat_natCast,Int.cast_ofNat_Int] at e1 e2 e3 ⊢
  generalize padB y 4 = A at *
  generalize padB mo 2 = B at *
  generalize padB d 2 = D at *
  have c1:strOp .add A [45] = some (.str (A ++ [45])):=catS (by simp;omega) rfl
  have c2:strOp .add (A ++ [45]) B = some (.str (A ++ 45 :: B)):=catS (by simp;omega) (by simp)
  have c3:strOp .add (A ++ 45 :: B) [45] = some (.str (A ++ 45 :: (B ++ [45]))):=catS (by simp;omega) (by simp)
  have c4:strOp .add (A ++ 45 :: (B ++ [45])) D = some (.str (A ++ 45 :: (B ++ 45 :: D))):=catS (by simp;omega) (by simp)
  apply Run.dy (by simp) keep49_7 (by simp)
  · simp only [whO,Wh.pay,hy,hmo,hd] at e1 e2 e3 ⊢
    (conv=>lhs;simp (maxSteps:=2000000) -implicitDefEqProofs [-getElem?_pos,go_sem,eqV,plen,runD,out1,markOf,freeO,quietO,pushes,isAssign,calledV,touched,mentioned,opVals,touchCall,mentionCall,idsAt,Op.operands,ids,idsL,lendArgs,lendV,lend1,lendL,eqH_self,e1,e2,e3,c1,c2,c3,c4,reach_none])
  · kernel_rfl
  · rfl
theorem wt_code (t:Nat) (ht:t < 256) (hw:WOk w):∃ code,Tryz.f49.body = some code ∧
    Tells (Rets fun fr H=>getF fr 4 = .str (wtB w t)) X (evT X) 49 0 code [(0,.agg w.pay),(1,.int .u8 (t:Nat))] []:=by
  refine ⟨_,rfl,?_⟩
  apply Tells.seq (fr':=[(1,.int .u8 (t:Nat)),(2,.ptr 0 0 0 0)]) (H':=[some (whO w)])
  · unfold whO
    simp only [Wh.pay]
    (refine ⟨0,?_⟩;simp (maxSteps:=2000000) -implicitDefEqProofs [-getElem?_pos,go_sem,eqV,plen])
  apply Tells.seq (piece (wt_r1 w t hw) _ rfl)
  apply Tells.assoc
  have l1:(ckT w).length≤100:=by
    unfold ckT
    have h1:=hw.mi;have h2:=hw.s;have h3:=hw.us
    have q1:=padB_len (x:=w.mi.toNat) (n:=2) (by omega) (by omega)
    have q2:=padB_len (x:=w.s.toNat) (n:=2) (by omega) (by omega)
    have q3:=usT_len (x:=w.us.toNat) (by omega)
    simp only [List.length_cons,List.length_append]
    omega
  obtain ⟨d,hd⟩:∃ m:Nat,w.d = (m:Int):=⟨w.d.toNat,by have:=hw.d;omega⟩
  obtain ⟨h,hh⟩:∃ m:Nat,w.h = (m:Int):=⟨w.h.toNat,by have:=hw.h;omega⟩
  have b1:=hw.d;have b2:=hw.h
  rw [hd] at b1;rw [hh] at b2
  by_cases h11:t = 11
  · subst h11
    have e1:=dig_ev (H:=[some (whO w)]) (x:=24 * d + h) (n:=2) (by omega) (by omega)
    have l2:=padB_len (x:=24 * d + h) (n:=2) (by omega) (by omega)
    have w1:IntKind.i64.wrap (24 * (d:Int)) = 24 * (d:Int):=wrap_i64 (by omega) (by omega)
    have w2:IntKind.i64.wrap (24 * (d:Int) + (h:Int)) = ((24 * d + h:Nat):Int):=by rw [wrap_i64 (by omega) (by omega)];omega
    have hwt:wtB w 11 = (if w.neg then [45] else []) ++ (padB (24 * d + h) 2 ++ ckT w):=by unfold wtB;rw [if_pos rfl,hd,hh];rfl
    rw [hwt]
    generalize ckT w = K at *
    generalize hz:24 * d + h = z at *
    generalize padB z 2 = A at *
    simp only [Int.cast_ofNat_Int] at e1
    cases hn:w.neg
    · have c1:strOp .add [] A = some (.str A):=catS (by simp;omega) (by simp)
      have c2:strOp .add A K = some (.str (A ++ K)):=catS (by omega) rfl
      refine Tells.of (o:=⟨.ret,[(4,.str (A ++ K))],[some (whO w)]⟩) ⟨0,?_⟩ ⟨rfl,by simp [getF]⟩
      simp only [whO,Wh.pay,hn,hd,hh] at e1 ⊢
      simp (maxSteps:=2000000) -implicitDefEqProofs [-getElem?_pos,go_sem,eqV,plen,e1,w1,w2,c1,c2]
    · have c1:strOp .add [45] A = some (.str (45 :: A)):=catS (by simp;omega) rfl
      have c2:strOp .add (45 :: A) K = some (.str (45 :: (A ++ K))):=catS (by simp;omega) rfl
      refine Tells.of (o:=⟨.ret,[(4,.str (45 :: (A ++ K)))],[some (whO w)]⟩) ⟨0,?_⟩ ⟨rfl,by simp [getF]⟩
      simp only [whO,Wh.pay,hn,hd,hh] at e1 ⊢
      simp (maxSteps:=2000000) -implicitDefEqProofs [-getElem?_pos,go_sem,eqV,plen,e1,w1,w2,c1,c2]
  have t11:((t:Int) == 11) = false:=by simp;omega
  apply Tells.seq (fr':=[(1,.int .u8 (t:Nat)),(2,.ptr 0 0 0 0),(5,.str (ckT w)),(22,.bool false)]) (H':=[some (whO w)])
  · (refine ⟨0,?_⟩;simp (maxSteps:=2000000) -implicitDefEqProofs [-getElem?_pos,go_sem,eqV,plen,h11,t11])
  apply Tells.seq (fr':=[(1,.int .u8 (t:Nat)),(2,.ptr 0 0 0 0),(5,.str (ckT w)),(22,.bool false)]) (H':=[some (whO w)])
  · exact Run.cond (d:=false) rfl ⟨0,rfl⟩
  obtain ⟨c7,hc7,tl,r7⟩:=wt_r7 w t (ckT w) hw
  apply Tells.seq (piece (P:=fun cd=>Run X (evT X) _ 0 cd _ _ _) ⟨c7,hc7,r7⟩ _ rfl)
  by_cases h10:t = 10
  · subst h10
    refine Tells.of (o:=⟨.ret,[(4,.str (wtB w 10))],[some (whO w)]⟩) ⟨0,?_⟩ ⟨rfl,rfl⟩
    rw [show wtB w 10 = dyT w from rfl]
    simp (maxSteps:=2000000) -implicitDefEqProofs [-getElem?_pos,go_sem,eqV,plen]
  · have t10:((t:Int) == 10) = false:=by simp;omega
    have e1:=dig_ev (H:=[some (whO w)]) (x:=h) (n:=2) (by omega) (by omega)
    have l2:=padB_len (x:=h) (n:=2) (by omega) (by omega)
    have l3:(dyT w).length≤100:=by
      unfold dyT
      have h1:=hw.y;have h2:=hw.mo;have h3:=hw.d
      have q1:=padB_len (x:=w.y.toNat) (n:=4) (by omega) (by omega)
      have q2:=padB_len (x:=w.mo.toNat) (n:=2) (by omega) (by omega)
      have q3:=padB_len (x:=w.d.toNat) (n:=2) (by omega) (by omega)
      simp only [List.length_cons,List.length_append]
      omega
    have hwt:wtB w t = dyT w ++ 32 :: (padB h 2 ++ ckT w):=by unfold wtB;rw [if_neg h11,if_neg h10,hh];rfl
    refine Tells.of (o:=⟨.ret,[(4,.str (wtB w t))],[some (whO w)]⟩) ⟨0,?_⟩ ⟨rfl,rfl⟩
    rw [hwt]
    generalize ckT w = K at *
    generalize dyT w = D at *
    generalize padB h 2 = A at *
    have c1:strOp .add D [32] = some (.str (D ++ [32])):=catS (by simp;omega) rfl
    have c2:strOp .add (D ++ [32]) A = some (.str (D ++ 32 :: A)):=catS (by simp;omega) (by simp)
    have c3:strOp .add (D ++ 32 :: A) K = some (.str (D ++ 32 :: (A ++ K))):=catS (by simp;omega) (by simp)
    simp only [Int.cast_ofNat_Int] at e1
    simp only [whO,Wh.pay,hh] at e1 ⊢
    simp (maxSteps:=2000000) -implicitDefEqProofs [-getElem?_pos,go_sem,eqV,plen,h10,t10,e1,c1,c2,c3]
end
theorem wt_ev {H:AM.Heap} {w:Wh} {t:Nat} (ht:t < 256) (hw:WOk w):evT X 49 [.agg w.pay,.int .u8 (t:Nat)] H = some (.str (wtB w t),H):=by
  obtain ⟨code,hcode,o,⟨he,h4⟩,hr⟩:=wt_code w t ht hw
  exact evT_eq (Ev1.toldP (l:=[.str (wtB w t)]) (evT_below X) Tryz.func49 hcode (args_wh (args_flat (i:=1) rfl rfl (args_nil 2))) rfl (by simp [gtag]) rfl rfl rfl ⟨o,⟨he,by show some [getF o.fr 4] = _;rw [h4]⟩,hr⟩)
end Go.Proofs.YtafdnpcamepbmaaGreatDoor
namespace Go.Proofs.YtafdnpcamepbmaaGreatDoor
open Go.AM
theorem fin_wok {w:Wh} {t:Nat} (h:fin w t = true):WOk w:=by
  have h2:=fin_nn h
  have hc:clk w = true:=by
    unfold fin at h
    simp only [Bool.and_eq_true] at h
    exact h.1
  unfold clk btw at hc
  simp only [Bool.and_eq_true,decide_eq_true_eq] at hc
  exact ⟨by omega,by omega,by omega,by omega,by omega,by omega,by omega⟩
theorem ok_kd {v:Va} {t:Ty} (h:chkV v t = 0) (hk:v.k ≠ 0):v.k = kindN t.t t.u:=by
  rcases chk_ok h with rfl | h
  · exact absurd rfl hk
  · unfold okVa okVk at h
    split at h
    · rename_i h1;simp only [Bool.and_eq_true,decide_eq_true_eq] at h;omega
    split at h
    · simp only [Bool.and_eq_true,decide_eq_true_eq] at h;omega
    split at h
    · simp only [Bool.and_eq_true,decide_eq_true_eq] at h;omega
    split at h
    · simp only [Bool.and_eq_true,decide_eq_true_eq] at h;omega
    · cases h
theorem kd_time {t:Nat} {u:Bool} (h:kindN t u = 6):t = 11:=by
  unfold kindN at h
  by_cases h11:t = 11
  · exact h11
  · exfalso
    revert h
    repeat' split
    all_goals omega
theorem kd_date {t:Nat} {u:Bool} (h:kindN t u = 5):t ≠ 11:=by
  rintro rfl
  unfold kindN at h
  revert h
  repeat' split
  all_goals omega
def vtX (v:Va) (t:Ty):List UInt8 × Int:=if chkV v t ≠ 0 then ([],2) else if v.k = 1 then (intB v.i,0) else if v.k = 2 then (decB v.b,0) else if v.k = 5∨v.k = 6 then (wtB v.w t.t,0) else if v.k = 7 then (v.t,0) else ([],2)
theorem chk_two {v:Va} {t:Ty} (h:chkV v t ≠ 0):chkV v t = 2:=by
  unfold chkV at h ⊢
  repeat' split
  all_goals first | rfl | (exfalso;simp_all)
section
variable (v:Va) (t:Ty)
theorem text_code (ht:t.t < 256) (hb:v.b < 18446744073709551616) (hi:-9223372036854775808≤v.i∧v.i < 9223372036854775808):∃ code,Tryz.f31.body = some code ∧
    Tells (Rets fun fr H=>getF fr 4 = .str (vtX v t).1∧getF fr 5 = .int .i64 (vtX v t).2) X (evT X) 31 0 code [(0,.agg v.pay),(1,.agg t.pay)] []:=by
  refine ⟨_,rfl,?_⟩
  have hC:=fun H=>check_ev (v:=v) (t:=t) ht hb hi H
  apply Tells.seq (fr':=[(2,.ptr 0 0 0 0),(3,.ptr 1 0 0 0)]) (H':=[some (vaO v),some (tyO t)])
  · unfold vaO tyO
    simp only [Va.pay,Ty.pay]
    (refine ⟨0,?_⟩;simp (maxSteps:=2000000) -implicitDefEqProofs [-getElem?_pos,go_sem,eqV,plen])
  apply Tells.assoc
  apply Tells.seq (fr':=[(2,.ptr 0 0 0 0),(3,.ptr 1 0 0 0),(6,.int .i64 (chkV v t))]) (H':=[some (vaO v),some (tyO t)])
  · simp only [Va.pay,Ty.pay] at hC
    (refine ⟨0,?_⟩;simp (maxSteps:=2000000) -implicitDefEqProofs [-getElem?_pos,go_sem,eqV,plen,vaO,tyO,Va.pay,Ty.pay,mkVa,mkTy,hC])
  clear hC
  by_cases hc:chkV v t ≠ 0
  · rw [show vtX v t = ([],2) by unfold vtX;rw [if_pos hc],chk_two hc]
    refine Tells.of (o:=⟨.ret,[(4,.str []),(5,.int .i64 2)],[some (vaO v),some (tyO t)]⟩) ⟨0,?_⟩ ⟨rfl,rfl,rfl⟩
    simp (maxSteps:=2000000) -implicitDefEqProofs [-getElem?_pos,go_sem,eqV,plen]
  have hc0:chkV v t = 0:=by simpa using hc
  have htx:vtX v t = if v.k = 1 then (intB v.i,0) else if v.k = 2 then (decB v.b,0) else if v.k = 5∨v.k = 6 then (wtB v.w t.t,0) else if v.k = 7 then (v.t,0) else ([],2):=by unfold vtX;rw [if_neg hc]
  obtain ⟨_,ff,_,fk⟩:=ok_facts hc0
  rw [hc0,htx]
  apply Tells.assoc
  apply Tells.seq (fr':=[(2,.ptr 0 0 0 0),(3,.ptr 1 0 0 0),(6,.int .i64 0),(11,.bool false)]) (H':=[some (vaO v),some (tyO t)])
  · (refine ⟨0,?_⟩;simp (maxSteps:=2000000) -implicitDefEqProofs [-getElem?_pos,go_sem,eqV,plen])
  apply Tells.seq (fr':=[(2,.ptr 0 0 0 0),(3,.ptr 1 0 0 0),(6,.int .i64 0),(11,.bool false)]) (H':=[some (vaO v),some (tyO t)])
  · exact Run.cond (d:=false) rfl ⟨0,rfl⟩
  by_cases k1:v.k = 1
  · rw [if_pos k1]
    have hF:=fun H=>sfmtI_ev (H:=H) hi.1 hi.2
    refine Tells.of (o:=⟨.ret,[(4,.str (intB v.i)),(5,.int .i64 0)],[some (vaO v),some (tyO t)]⟩) ⟨0,?_⟩ ⟨rfl,rfl,rfl⟩
    simp (maxSteps:=2000000) -implicitDefEqProofs [-getElem?_pos,go_sem,eqV,plen,vaO,tyO,Va.pay,Ty.pay,k1,hF]
  rw [if_neg k1]
  by_cases k2:v.k = 2
  · rw [if_pos k2]
    have hF:=fun H=>sfmtU_ev (H:=H) hb
    refine Tells.of (o:=⟨.ret,[(4,.str (decB v.b)),(5,.int .i64 0)],[some (vaO v),some (tyO t)]⟩) ⟨0,?_⟩ ⟨rfl,rfl,rfl⟩
    simp (maxSteps:=2000000) -implicitDefEqProofs [-getElem?_pos,go_sem,eqV,plen,vaO,tyO,Va.pay,Ty.pay,k2,hF]
  rw [if_neg k2]
  by_cases k5:v.k = 5∨v.k = 6
  · rw [if_pos k5]
    have hF:=fun H=>wt_ev (H:=H) (w:=v.w) ht (fin_wok (ff k5))
    refine Tells.of (o:=⟨.ret,[(4,.str (wtB v.w t.t)),(5,.int .i64 0)],[some (vaO v),some (tyO t)]⟩) ⟨0,?_⟩ ⟨rfl,rfl,rfl⟩
    simp only [Wh.pay] at hF
    rcases k5 with k5 | k5
    · simp (maxSteps:=2000000) -implicitDefEqProofs [-getElem?_pos,go_sem,eqV,plen,vaO,tyO,Va.pay,Ty.pay,k5,mkWh,hF]
    · simp (maxSteps:=2000000) -implicitDefEqProofs [-getElem?_pos,go_sem,eqV,plen,vaO,tyO,Va.pay,Ty.pay,k5,mkWh,hF]
  rw [if_neg k5]
  by_cases k7:v.k = 7
  · rw [if_pos k7]
    refine Tells.of (o:=⟨.ret,[(4,.str v.t),(5,.int .i64 0)],[some (vaO v),some (tyO t)]⟩) ⟨0,?_⟩ ⟨rfl,rfl,rfl⟩
    simp (maxSteps:=2000000) -implicitDefEqProofs [-getElem?_pos,go_sem,eqV,plen,vaO,tyO,Va.pay,Ty.pay,k7]
  rw [if_neg k7]
  have k5':v.k ≠ 5:=fun h=>k5 (.inl h)
  have k6':v.k ≠ 6:=fun h=>k5 (.inr h)
  refine Tells.of (o:=⟨.ret,[(4,.str []),(5,.int .i64 2)],[some (vaO v),some (tyO t)]⟩) ⟨0,?_⟩ ⟨rfl,rfl,rfl⟩
  have b1:(v.k == 1) = false:=by simpa using k1
  have b2:(v.k == 2) = false:=by simpa using k2
  have b5:(v.k == 5) = false:=by simpa using k5'
  have b6:(v.k == 6) = false:=by simpa using k6'
  have b7:(v.k == 7) = false:=by simpa using k7
  simp (maxSteps:=2000000) -implicitDefEqProofs [-getElem?_pos,go_sem,eqV,plen,vaO,tyO,Va.pay,Ty.pay,k1,k2,k5',k6',k7,b1,b2,b5,b6,b7]
end
theorem text_ev {H:AM.Heap} {v:Va} {t:Ty} (ht:t.t < 256) (hb:v.b < 18446744073709551616) (hi:-9223372036854775808≤v.i∧v.i < 9223372036854775808) :
    evT X 31 [.agg v.pay,.agg t.pay] H = some (.tup [.str (vtX v t).1,.int .i64 (vtX v t).2],H):=by
  obtain ⟨code,hcode,o,⟨he,h4,h5⟩,hr⟩:=text_code v t ht hb hi
  exact evT_eq (Ev1.toldP (l:=[.str (vtX v t).1,.int .i64 (vtX v t).2]) (evT_below X) Tryz.func31 hcode (args_va (i:=0) (args_ty (i:=1) (args_nil 2))) (by simp [Va.pay,Ty.pay,idsL,ids]) (by simp [gtag]) rfl rfl rfl ⟨o,⟨he,by show some [getF o.fr 4,getF o.fr 5] = _;rw [h4,h5]⟩,hr⟩)
end Go.Proofs.YtafdnpcamepbmaaGreatDoor
namespace Go.Proofs.YtafdnpcamepbmaaGreatDoor
open Go.AM
def bad45 (t:Ty):Bool:=decide (t.t = 4) || decide (t.t = 5)
def trnV (v:Va) (t:Ty):Va:=if v.k = 0 then v else { k:=7,t:=(vtX v t).1 }
def trZ (l:List Va) (ts:List Ty) (i:Nat):List Va:=(List.zipWith trnV l ts).take i ++ l.drop i
def trdB (b:List UInt8) (ts:List Ty):List UInt8 × Int :=
  if (rdBin b ts).2 ≠ 0 then ([],(rdBin b ts).2) else if ts.any bad45 then ([],2) else txApp [] (List.zipWith trnV (rdBin b ts).1 ts)
theorem trZ_zero (l:List Va) (ts:List Ty):trZ l ts 0 = l:=by simp [trZ]
theorem trZ_all {l:List Va} {ts:List Ty} (h:l.length = ts.length):trZ l ts l.length = List.zipWith trnV l ts:=by
  unfold trZ
  rw [List.drop_length,List.append_nil,List.take_of_length_le (by rw [List.length_zipWith];omega)]
theorem trZ_len {l:List Va} {ts:List Ty} (h:l.length = ts.length) (i:Nat):(trZ l ts i).length = l.length:=by
  unfold trZ
  rw [List.length_append,List.length_take,List.length_zipWith,List.length_drop];omega
theorem trZ_at {l:List Va} {ts:List Ty} (h:l.length = ts.length) {i:Nat} {v:Va} (hv:l[i]? = some v):(trZ l ts i)[i]? = some v:=by
  have hi:=at_lt hv
  unfold trZ
  have e:((List.zipWith trnV l ts).take i).length = i:=by rw [List.length_take,List.length_zipWith];omega
  rw [List.getElem?_append_right (by omega),e,Nat.sub_self,List.getElem?_drop,Nat.add_zero,hv]
theorem trZ_set {l:List Va} {ts:List Ty} (h:l.length = ts.length) {i:Nat} {v:Va} {t:Ty} (hv:l[i]? = some v) (ht:ts[i]? = some t):(trZ l ts i).set i (trnV v t) = trZ l ts (i + 1):=by
  have hi:=at_lt hv
  unfold trZ
  have e:((List.zipWith trnV l ts).take i).length = i:=by rw [List.length_take,List.length_zipWith];omega
  have hd:l.drop i = v :: l.drop (i + 1):=by
    rw [List.drop_eq_getElem_cons hi]
    rw [List.getElem?_eq_getElem hi] at hv
    rw [Option.some.inj hv]
  rw [hd,List.take_add_one,List.getElem?_zipWith,hv,ht,List.set_append_right _ _ (by omega),e,Nat.sub_self]
  simp
theorem trZ_same {l:List Va} {ts:List Ty} (h:l.length = ts.length) {i:Nat} {v:Va} {t:Ty} (hv:l[i]? = some v) (ht:ts[i]? = some t) (hk:v.k = 0):trZ l ts (i + 1) = trZ l ts i:=by
  rw [← trZ_set h hv ht,show trnV v t = v by unfold trnV;rw [if_pos hk]]
  have hz:=trZ_at h hv
  have hi:=at_lt hz
  rw [List.getElem?_eq_getElem hi] at hz
  rw [← Option.some.inj hz,List.set_getElem_self]
theorem rbF_len {f:Nat→Bool} {ts:List Ty}:∀ {k i:Nat} {a:List Va} {r:List UInt8} {x:List Va} {r':List UInt8},rbF f ts k i a r = (x,r',0)→x.length = a.length + k
  | 0,i,a,r,x,r',h=>by rw [rbF] at h;cases h;rfl
  | k + 1,i,a,r,x,r',h=>by
    rw [rbF] at h
    split at h
    · have:=rbF_len h;rw [this];simp;omega
    split at h
    · rename_i h2;exact absurd (congrArg (fun x=>x.2.2) h) h2
    · have:=rbF_len h;rw [this];simp;omega
theorem rwZ_len {f:Nat→Bool} {ts:List Ty} {k:Nat} {r:List UInt8}:(rwZ (rbF f ts k 0 [] r)).2 = 0→(rwZ (rbF f ts k 0 [] r)).1.length = k:=by
  rcases hx:rbF f ts k 0 [] r with ⟨x,r',e⟩
  unfold rwZ
  split
  · rename_i h2;intro h;exact absurd h h2
  rename_i h2
  simp only [ne_eq,Decidable.not_not] at h2
  subst h2
  split
  · intro h;simp at h
  · intro _;simpa using rbF_len hx
theorem rdBin_len {b:List UInt8} {ts:List Ty} (h:(rdBin b ts).2 = 0):(rdBin b ts).1.length = ts.length:=by
  revert h
  unfold rdBin
  split
  · intro h;simp at h
  split
  · intro h;simp at h
  split
  · intro h;simp at h
  split
  · intro h;simp at h
  split
  · intro h;simp at h
  unfold rdBm
  split
  · intro h;simp at h
  split
  · intro h;simp at h
  exact rwZ_len
theorem ndN_20 {x:Nat} (hx:x < 18446744073709551616):ndN x≤20:=by
  have:=padB_len_big hx
  unfold padB at this
  rw [dgs_len] at this
  omega
theorem wtB_len {w:Wh} {t:Nat} (h:WOk w):(wtB w t).length≤200:=by
  obtain ⟨y,mo,d,hh,mi,s,us⟩:=h
  have h1:=padB_len (x:=w.y.toNat) (n:=4) (by omega) (by omega)
  have h2:=padB_len (x:=w.mo.toNat) (n:=2) (by omega) (by omega)
  have h3:=padB_len (x:=w.d.toNat) (n:=2) (by omega) (by omega)
  have h4:=padB_len (x:=w.h.toNat) (n:=2) (by omega) (by omega)
  have h5:=padB_len (x:=w.mi.toNat) (n:=2) (by omega) (by omega)
  have h6:=padB_len (x:=w.s.toNat) (n:=2) (by omega) (by omega)
  have h7:=usT_len (x:=w.us.toNat) (by omega)
  have h8:=padB_len (x:=24 * w.d.toNat + w.h.toNat) (n:=2) (by omega) (by omega)
  have hc:(ckT w).length≤70:=by unfold ckT;simp only [List.length_append,List.length_cons];omega
  have hd:(dyT w).length≤70:=by unfold dyT;simp only [List.length_append,List.length_cons];omega
  unfold wtB
  split
  · simp only [List.length_append]
    have:(if w.neg = true then [(45:UInt8)] else []).length≤1:=by split <;> simp
    omega
  split
  · omega
  · simp only [List.length_append,List.length_cons];omega
theorem vtX_len {v:Va} {t:Ty} (h:v.okR):(vtX v t).1.length≤v.t.length + 200:=by
  obtain ⟨h1,h2,h3⟩:=h
  unfold vtX
  split
  · simp
  rename_i hc
  have hc0:chkV v t = 0:=by simpa using hc
  split
  · show (intB v.i).length≤_
    unfold intB
    split
    · have:=ndN_20 (x:=(-v.i).toNat) (by omega)
      rw [List.length_cons,decB_len];omega
    · have:=ndN_20 (x:=v.i.toNat) (by omega)
      rw [decB_len];omega
  split
  · have:=ndN_20 (x:=v.b) (by omega)
    show (decB v.b).length≤_
    rw [decB_len];omega
  split
  · rename_i k5
    obtain ⟨_,ff,_,_⟩:=ok_facts hc0
    have:=wtB_len (t:=t.t) (fin_wok (ff k5))
    show (wtB v.w t.t).length≤_
    omega
  split
  · show v.t.length≤_;omega
  · simp
theorem trnV_ok {v:Va} {t:Ty} (h:v.okR):(trnV v t).okR:=by
  unfold trnV
  split
  · exact h
  · unfold Va.okR;simp
theorem trn_all {l:List Va} {ts:List Ty} (h:∀ v ∈ l,v.okR):∀ p ∈ List.zipWith trnV l ts,p.okR:=by
  intro p hp
  obtain ⟨i,hi,rfl⟩:=List.getElem_of_mem hp
  rw [List.getElem_zipWith]
  exact trnV_ok (h _ (List.getElem_mem _))
theorem trn_sum:∀ (l:List Va) (ts:List Ty),(∀ v ∈ l,v.okR)→(txR (List.zipWith trnV l ts)).length≤sumV l + 209 * l.length
  | [],_,_=>by simp [txR,sumV]
  | v :: l,[],_=>by simp [txR]
  | v :: l,t :: ts,h=>by
    have ih:=trn_sum l ts (fun p hp=>h p (List.mem_cons_of_mem _ hp))
    have h2:=vtX_len (t:=t) (h v (List.mem_cons_self ..))
    have ha:=aT_le (trnV v t).t
    have h4:(trnV v t).t.length≤v.t.length + 200:=by unfold trnV;split <;> omega
    have h3:(txV (trnV v t)).length≤v.t.length + 209:=by unfold txV;split <;> first | omega | (simp only [List.length_cons,List.length_nil];omega)
    have e1:(txR (List.zipWith trnV (v :: l) (t :: ts))).length = (txV (trnV v t)).length + (txR (List.zipWith trnV l ts)).length:=by simp [txR]
    have e2:sumV (v :: l) = v.t.length + sumV l:=by simp [sumV]
    rw [e1,e2,List.length_cons];omega
end Go.Proofs.YtafdnpcamepbmaaGreatDoor
namespace Go.Proofs.YtafdnpcamepbmaaGreatDoor
open Go.AM
def tcFr (A L:AV) (n i:Nat):AM.Frame:=[(0,A),(1,L),(14,L),(15,.int .i64 (n:Nat)),(16,.int .i64 (i:Nat))]
section
variable (c:Nat) (b:List UInt8) (d:Nat) (l:List Va)
def twFr (i o g:Nat):AM.Frame:=[(8,.sl o 0 (b ++ txR (l.take i)).length g),(27,.ro d (.pr 12 (l.map Va.pay)) 2),(28,.int .i64 (l.length:Nat)),(29,.int .i64 (i:Nat))]
theorem tw_round (i o g:Nat) (v:Va) (ob:AM.Obj) (H:AM.Heap) (hn:l.length≤4096) (hp:l[i]? = some v) (hb:b.length≤2000000) (hT:(txR l).length≤1000000) (hs:v.t.length≤16777216) (ho:H[o]? = some (some ob)) (hw:Rw (.pb (b ++ txR (l.take i))) g ob) :
    ∃ code,((Tryz.f15.body).bind (codeAt [1,1,1,1,0,1,0,0,1,1])) = some code ∧
      Tells (Goes fun fr H'=>∃ o' g' ob',fr = twFr b d l (i + 1) o' g'∧H'[o']? = some (some ob')∧Rw (.pb (b ++ txR (l.take (i + 1)))) g' ob') X (evT X) 15 0 code (twFr b d l i o g ++ [(30,.bool true)]) H:=by
  refine ⟨_,rfl,?_⟩
  have hlt:=at_lt hp
  have hLl:(l.map Va.pay).length = l.length:=List.length_map _
  have hrow:(l.map Va.pay)[i]? = some v.pay:=by rw [List.getElem?_map,hp];rfl
  have hiI:(i:Int) < (l.length:Int):=by omega
  have hcat:=txR_take hp
  have hle:=txR_le l i
  have w1:IntKind.i64.wrap ((i:Int) + 1) = ((i + 1:Nat):Int):=by rw [wrap_i64 (by omega) (by omega)];omega
  have hnew:∀ x:Option AM.Obj,(H ++ [x])[H.length]? = some x:=fun x=>by simp
  by_cases hk:v.k = 0
  · have ht:txV v = [251]:=if_pos hk
    rw [ht] at hcat
    obtain ⟨ob1,hw1,hA⟩:=app_b (H:=H ++ [some (vaO v)]) (o:=o) (m:=[251]) (src:=.ro 1 (.pb [251]) 0) (at_cat ho) hw (.inl rfl) (by simp;omega)
    have hbs:=fun H=>bsK H 251 251 rfl
    rw [List.append_assoc,← hcat] at hw1
    have hl1:(b ++ txR (l.take (i + 1))).length = (b ++ txR (l.take i)).length + 1:=by rw [hcat];simp;omega
    refine Tells.of (o:=⟨.normal,twFr b d l (i + 1) o (g + 1),upd (H ++ [some (vaO v)]) o (some ob1)⟩) ⟨0,?_⟩ ⟨rfl,o,g + 1,ob1,rfl,at_set (at_cat ho),hw1⟩
    unfold twFr
    rw [hl1]
    simp only [List.length_cons,List.length_nil,Nat.zero_add] at hA
    generalize (b ++ txR (l.take i)).length = n at *
    generalize l.map Va.pay = L at *
    simp only [vaO,Va.pay] at hA hrow
    rw [hk] at hA hrow
    simp (maxSteps:=2000000) -implicitDefEqProofs [-getElem?_pos,go_sem,eqV,plen,hlt,hiI,hLl,hrow,vaO,Va.pay,hk,retagL,retag,retagP,flatCells,splice,scalars,scalar,hnew,mkVa,hbs,hA,w1,assignV]
  · have ht:txV v = aT v.t:=if_neg hk
    rw [ht] at hcat
    have hkb:(v.k == 0) = false:=by simpa using hk
    obtain ⟨ob1,hw1,hA⟩:=appendText_ev (H:=H ++ [some (vaO v)]) (s:=v.t) (Byt.whole (at_cat ho) hw) (by simp;omega) (by omega)
    rw [List.append_assoc,← hcat] at hw1 hA
    refine Tells.of (o:=⟨.normal,twFr b d l (i + 1) (H.length + 1) 0,H ++ [some (vaO v)] ++ [some ob1]⟩) ⟨0,?_⟩ ⟨rfl,H.length + 1,0,ob1,rfl,by simp,hw1⟩
    unfold twFr
    generalize (b ++ txR (l.take i)).length = n at *
    generalize (b ++ txR (l.take (i + 1))).length = n1 at *
    generalize l.map Va.pay = L at *
    simp only [vaO,Va.pay] at hA hrow
    simp (maxSteps:=2000000) -implicitDefEqProofs [-getElem?_pos,go_sem,eqV,plen,hlt,hiI,hLl,hrow,vaO,Va.pay,hkb,retagL,retag,retagP,flatCells,splice,scalars,scalar,hnew,mkVa,hA,w1,assignV]
theorem tc_chk (A:AV) (i:Nat) (v:Va) (H:AM.Heap) (k:Nat) (ho:v.okR) (hk:H[k]? = some (some (vaO v))) :
    ∃ code,((Tryz.f15.body).bind (codeAt [1,1,0,1,0,0,1,1,0,0,1,0])) = some code∧Run X (evT X) 15 0 code [(0,A),(1,.ro d (.pr 12 (l.map Va.pay)) 2),(7,.ptr k 0 0 0),(14,.ro d (.pr 12 (l.map Va.pay)) 2),(15,.int .i64 (l.length:Nat)),(16,.int .i64 (i:Nat))] H
      ⟨.normal,tcFr A (.ro d (.pr 12 (l.map Va.pay)) 2) l.length i ++ [(23,.bool (chkV v tyVS != 0))],H⟩:=by
  refine ⟨_,rfl,?_⟩
  have hC:=check_ev (v:=v) (t:=tyVS) (by decide) ho.1 ho.2 H
  have hX:=texts_ev H
  have hlt:=at_lt hk
  generalize l.map Va.pay = L at *
  generalize chkV v tyVS = ck at *
  unfold tcFr
  simp only [Va.pay,Ty.pay] at hC hX
  apply Run.dy (by simp) keep15_6 (by simp)
  · (conv=>lhs;simp (maxSteps:=2000000) -implicitDefEqProofs [-getElem?_pos,go_sem,eqV,plen,runD,out1,markOf,freeO,quietO,pushes,isAssign,calledV,touched,mentioned,opVals,touchCall,mentionCall,idsAt,Op.operands,ids,idsL,lendArgs,lendV,lend1,lendL,eqH_self,hk,vaO,Va.pay,mkVa,mkTy,hC,hX,retagL,retag,retagP,flatCells,splice,scalars,scalar])
  · refine marksOk_of (ps:=[(0,1)]) (by kernel_rfl) ?_
    simp [bearP,bear]
  · rfl
theorem tc_loop (A:AV) (H:AM.Heap) (hl:∀ v ∈ l,v.okR) (hn:l.length≤4096) :
    ∃ code,((Tryz.f15.body).bind (codeAt [1,1,0,1])) = some code ∧
      Tells (Or2 (fun fr H=>(∀ p ∈ l,chkV p tyVS = 0)∧fr = tcFr A (.ro d (.pr 12 (l.map Va.pay)) 2) l.length l.length ++ [(17,.bool false)]) (fun out=>out.ex = .ret∧(∃ p ∈ l,chkV p tyVS ≠ 0)∧∃ o,getF out.fr 4 = .sl o 0 0 0∧getF out.fr 5 = .int .i64 2∧out.H[o]? = some (some nilB))) X (evT X) 15 0 code (tcFr A (.ro d (.pr 12 (l.map Va.pay)) 2) l.length 0) H:=by
  refine ⟨_,rfl,?_⟩
  have hLl:(l.map Va.pay).length = l.length:=List.length_map _
  apply Tells.blockOr
  refine Tells.loopP (fun k fr H=>∃ i,k = l.length - i∧i≤l.length∧fr = tcFr A (.ro d (.pr 12 (l.map Va.pay)) 2) l.length i∧∀ j p,j < i→l[j]? = some p→chkV p tyVS = 0) ?_ (k:=l.length) ⟨0,rfl,by omega,rfl,by omega⟩
  rintro k fr H ⟨i,rfl,hi,rfl,hall⟩
  by_cases hin:i = l.length
  · subst hin
    refine Tells.of (o:=⟨.exit 0,tcFr A (.ro d (.pr 12 (l.map Va.pay)) 2) l.length l.length ++ [(17,.bool false)],H⟩) ⟨0,?_⟩ (.inr ⟨by simp,.inl ⟨rfl,fun p hp=>?_,rfl⟩⟩)
    · generalize l.map Va.pay = L at *
      simp (maxSteps:=2000000) -implicitDefEqProofs [-getElem?_pos,go_sem,eqV,plen,tcFr]
    · obtain ⟨j,hj,rfl⟩:=List.mem_iff_getElem.1 hp
      exact hall j _ hj (List.getElem?_eq_getElem hj)
  have hlt:i < l.length:=by omega
  have hiI:(i:Int) < (l.length:Int):=by omega
  obtain ⟨v,hv⟩:∃ p,l[i]? = some p:=⟨_,List.getElem?_eq_getElem hlt⟩
  have hrow:(l.map Va.pay)[i]? = some v.pay:=by rw [List.getElem?_map,hv];rfl
  have hm:=List.mem_of_getElem? hv
  have hnew:∀ x:Option AM.Obj,(H ++ [x])[H.length]? = some x:=fun x=>by simp
  have w1:IntKind.i64.wrap ((i:Int) + 1) = ((i + 1:Nat):Int):=by rw [wrap_i64 (by omega) (by omega)];omega
  have hchk:=tc_chk d l A i v (H ++ [some (vaO v)]) H.length (hl v hm) (hnew _)
  apply Tells.seq (fr':=tcFr A (.ro d (.pr 12 (l.map Va.pay)) 2) l.length i ++ [(17,.bool true)]) (H':=H)
  · generalize l.map Va.pay = L at *
    (refine ⟨0,?_⟩;simp (maxSteps:=2000000) -implicitDefEqProofs [-getElem?_pos,go_sem,eqV,plen,tcFr,hiI])
  apply Tells.seq (fr':=tcFr A (.ro d (.pr 12 (l.map Va.pay)) 2) l.length i ++ [(17,.bool true)]) (H':=H)
  · refine condT (by simp [evalO,getF,tcFr]) ?_
    exact ⟨0,rfl⟩
  apply Tells.or (P:=fun fr H'=>chkV v tyVS = 0∧fr = tcFr A (.ro d (.pr 12 (l.map Va.pay)) 2) l.length i ++ [(23,.bool false)])
  · apply Tells.blkOr
    · apply Tells.seq (fr':=[(0,A),(1,.ro d (.pr 12 (l.map Va.pay)) 2),(7,.ptr H.length 0 0 0),(14,.ro d (.pr 12 (l.map Va.pay)) 2),(15,.int .i64 (l.length:Nat)),(16,.int .i64 (i:Nat))]) (H':=H ++ [some (vaO v)])
      · generalize l.map Va.pay = L at *
        simp only [Va.pay] at hrow
        (refine ⟨0,?_⟩;simp (maxSteps:=2000000) -implicitDefEqProofs [-getElem?_pos,go_sem,eqV,plen,tcFr,hlt,hLl,hrow,vaO,Va.pay,hnew,mkVa,retagL,retag,retagP,flatCells,splice,scalars,scalar])
      apply Tells.seq (piece hchk _ rfl)
      by_cases h0:chkV v tyVS = 0
      · have h0b:(chkV v tyVS != 0) = false:=by rw [h0];rfl
        rw [h0b]
        refine Tells.condF (by simp [evalO,getF,tcFr]) ?_
        exact Tells.of (o:=⟨.normal,_,_⟩) ⟨0,rfl⟩ (.inl ⟨rfl,h0,rfl⟩)
      · have h0b:(chkV v tyVS != 0) = true:=by simpa using h0
        rw [h0b]
        refine Tells.condT (by simp [evalO,getF,tcFr]) ?_
        refine Tells.of (o:=⟨.ret,[(4,.sl (H.length + 1) 0 0 0),(5,.int .i64 2)],H ++ [some (vaO v)] ++ [some nilB]⟩) ⟨0,?_⟩ (.inr ⟨by simp,.inr ⟨by simp,.inr ⟨rfl,rfl,⟨v,hm,h0⟩,H.length + 1,rfl,rfl,by simp⟩⟩⟩)
        generalize l.map Va.pay = L at *
        simp (maxSteps:=2000000) -implicitDefEqProofs [-getElem?_pos,go_sem,eqV,plen,tcFr,assignV,emB]
    · rintro o (⟨h1,_⟩ | ⟨_,⟨h2,_⟩ | ⟨h2,_⟩⟩)
      · rw [h1];simp
      · rw [h2];simp
      · rw [h2];simp
  rintro fr H' ⟨h0,rfl⟩
  refine Tells.of (o:=⟨.normal,tcFr A (.ro d (.pr 12 (l.map Va.pay)) 2) l.length (i + 1),H'⟩) ⟨0,?_⟩ (.inl ⟨rfl,l.length - (i + 1),by omega,i + 1,rfl,by omega,rfl,fun j q hj hq=>?_⟩)
  · generalize l.map Va.pay = L at *
    simp (maxSteps:=2000000) -implicitDefEqProofs [-getElem?_pos,go_sem,eqV,plen,tcFr,w1]
  · by_cases hji:j = i
    · subst hji;rw [hv] at hq;obtain rfl:=Option.some.inj hq
      exact h0
    · exact hall j q (by omega) hq
theorem tapp_code (hc:c = 0→b = []) (hb:b.length≤2000000) (hl:∀ v ∈ l,v.okR) (hT:(txR l).length≤1000000):∃ code,Tryz.f15.body = some code ∧
    Tells (Rets fun fr H=>∃ o g ob,getF fr 4 = .sl o 0 (txApp b l).1.length g∧getF fr 5 = .int .i64 (txApp b l).2∧H[o]? = some (some ob)∧Rw (.pb (txApp b l).1) g ob) X (evT X) 15 0 code [(0,.ro c (.pb b) 1),(1,.ro d (.pr 12 (l.map Va.pay)) 2)] []:=by
  refine ⟨_,rfl,?_⟩
  have hLat:∀ (i:Nat) (v:Va),l[i]? = some v→(l.map Va.pay)[i]? = some v.pay:=fun i p h=>(by rw [List.getElem?_map,h];rfl)
  have hLl:(l.map Va.pay).length = l.length:=List.length_map _
  generalize hLm:l.map Va.pay = L at *
  apply Tells.seq (fr':=[(0,.ro c (.pb b) 1),(1,.ro d (.pr 12 L) 2)]) (H':=[some nilB])
  · (refine ⟨0,?_⟩;simp (maxSteps:=2000000) -implicitDefEqProofs [-getElem?_pos,go_sem,eqV,plen,assignV,emB])
  by_cases h5:4096 < l.length
  · rw [show txApp b l = ([],3) from if_pos h5]
    refine Tells.of (o:=⟨.ret,[(4,.sl 1 0 0 0),(5,.int .i64 3)],[some nilB,some nilB]⟩) ?_ ⟨rfl,1,0,nilB,rfl,rfl,rfl,nilB_rw⟩
    apply Run.seq_out (hne:=by simp)
    have h5i:(4096:Int) < (l.length:Int):=by omega
    refine ⟨0,?_⟩
    simp (maxSteps:=2000000) -implicitDefEqProofs [-getElem?_pos,go_sem,eqV,plen,assignV,emB,h5i,hLl]
  have hbad:∀ p ∈ l,chkV p tyVS ≠ 0→txApp b l = ([],2):=by
    intro p hp hb
    unfold txApp
    rw [if_neg h5,if_pos (List.any_eq_true.2 ⟨p,hp,by simpa using hb⟩)]
  have h5i:¬ (4096:Int) < (l.length:Int):=by omega
  apply Tells.seq (fr':=[(0,.ro c (.pb b) 1),(1,.ro d (.pr 12 L) 2),(13,.bool false)]) (H':=[some nilB])
  · (refine ⟨0,?_⟩;simp (maxSteps:=2000000) -implicitDefEqProofs [-getElem?_pos,go_sem,eqV,plen,assignV,emB,h5i,hLl])
  apply Tells.assoc
  apply Tells.seq (fr':=tcFr (.ro c (.pb b) 1) (.ro d (.pr 12 L) 2) l.length 0) (H':=[some nilB])
  · (refine ⟨0,?_⟩;simp (maxSteps:=2000000) -implicitDefEqProofs [-getElem?_pos,go_sem,eqV,plen,assignV,emB,tcFr,hLl])
  generalize hHH:([some nilB]:AM.Heap) = HH
  have hmem:∀ (i:Nat) p,l[i]? = some p→p ∈ l:=fun i p h=>List.mem_of_getElem? h
  rw [← hLm]
  apply Tells.or (P:=fun fr H=>(∀ p ∈ l,chkV p tyVS = 0)∧fr = tcFr (.ro c (.pb b) 1) (.ro d (.pr 12 (l.map Va.pay)) 2) l.length l.length ++ [(17,.bool false)])
  · refine (piece (tc_loop d l (.ro c (.pb b) 1) HH hl (by omega)) _ rfl).mono ?_
    rintro out (h | ⟨h1,h2,⟨p,hp,hb⟩,o,q6,q7,q8⟩)
    · exact .inl h
    · have hbd:=hbad p hp hb
      exact .inr ⟨h1,h2,o,0,nilB,by rw [hbd];exact q6,by rw [hbd];exact q7,q8,by rw [hbd];exact nilB_rw⟩
  · rintro fr H ⟨hok,rfl⟩
    rw [hLm]
    have hany:¬ (l.any fun v=>decide (chkV v tyVS ≠ 0)) = true:=by
      intro h
      obtain ⟨p,hp,hb⟩:=List.any_eq_true.1 h
      rw [hok p hp] at hb;simp at hb
    have hpa:txApp b l = (b ++ txR l,0):=by
      unfold txApp
      rw [if_neg h5,if_neg hany]
    rw [hpa]
    obtain ⟨ob0,hw0,hA0⟩:=clone_ev (H:=H) (a:=.ro c (.pb b) 1) (b:=b) (Byt.ro (.inl rfl) hc) (by omega)
    apply Tells.seq (fr':=[(1,.ro d (.pr 12 L) 2),(8,.sl H.length 0 b.length 0)]) (H':=H ++ [some ob0])
    · (refine ⟨0,?_⟩;simp (maxSteps:=2000000) -implicitDefEqProofs [-getElem?_pos,go_sem,eqV,plen,tcFr,hA0,assignV])
    apply Tells.assoc
    have hb0:(b ++ txR (l.take 0)).length = b.length:=by rw [List.take_zero];simp [txR]
    apply Tells.seq (fr':=twFr b d l 0 H.length 0) (H':=H ++ [some ob0])
    · unfold twFr
      rw [hb0,hLm]
      (refine ⟨0,?_⟩;simp (maxSteps:=2000000) -implicitDefEqProofs [-getElem?_pos,go_sem,eqV,plen,hLl])
    apply Tells.blockThen (P:=fun fr H=>∃ o g ob,fr = twFr b d l l.length o g ++ [(30,.bool false)]∧H[o]? = some (some ob)∧Rw (.pb (b ++ txR l)) g ob)
    · refine Tells.loopP (fun k fr H=>∃ i o g ob,k = l.length - i∧i≤l.length∧fr = twFr b d l i o g∧H[o]? = some (some ob)∧Rw (.pb (b ++ txR (l.take i))) g ob) ?_ (k:=l.length) ⟨0,H.length,0,ob0,rfl,by omega,rfl,by simp,by rw [List.take_zero];simpa [txR] using hw0⟩
      rintro k fr H ⟨i,o,g,ob,rfl,hi,rfl,ho,hw⟩
      by_cases hin:i = l.length
      · subst hin
        rw [List.take_length] at hw
        refine Tells.of (o:=⟨.exit 2,twFr b d l l.length o g ++ [(30,.bool false)],H⟩) ⟨0,?_⟩ (.inr ⟨by simp,.inl ⟨rfl,o,g,ob,rfl,ho,hw⟩⟩)
        simp (maxSteps:=2000000) -implicitDefEqProofs [-getElem?_pos,go_sem,eqV,plen,twFr]
      have hiI:(i:Int) < (l.length:Int):=by omega
      obtain ⟨v,hv⟩:∃ p,l[i]? = some p:=⟨_,List.getElem?_eq_getElem (show i < l.length by omega)⟩
      apply Tells.seq (fr':=twFr b d l i o g ++ [(30,.bool true)]) (H':=H)
      · (refine ⟨0,?_⟩;simp (maxSteps:=2000000) -implicitDefEqProofs [-getElem?_pos,go_sem,eqV,plen,twFr,hiI])
      apply Tells.seq (fr':=twFr b d l i o g ++ [(30,.bool true)]) (H':=H)
      · refine condT (by simp [evalO,getF,twFr]) ?_
        exact ⟨0,rfl⟩
      have hs:v.t.length≤16777216:=by
        rcases ok_tx (hok v (hmem i v hv)) with h | h
        · rw [h];decide
        · exact h.2
      refine (piece (tw_round b d l i o g v ob H (by omega) hv hb hT hs ho hw) _ rfl).mono ?_
      rintro q ⟨h1,o',g',ob',h2,h3,h4⟩
      exact .inl ⟨h1,l.length - (i + 1),by omega,i + 1,o',g',ob',rfl,by omega,h2,h3,h4⟩
    rintro fr H ⟨o,g,ob,rfl,ho,hw⟩
    refine Tells.of (o:=⟨.ret,[(4,.sl o 0 (b ++ txR l).length g),(5,.int .i64 0)],H⟩) ⟨0,?_⟩ ⟨rfl,o,g,ob,rfl,rfl,ho,hw⟩
    unfold twFr
    rw [List.take_length]
    generalize (b ++ txR l).length = n at *
    simp (maxSteps:=2000000) -implicitDefEqProofs [-getElem?_pos,go_sem,eqV,plen,assignV]
end
theorem tapp_ev {H:AM.Heap} {a A:AV} {b:List UInt8} {l:List Va} (h:Byt H a b) (hA:RoV H A l) (hb:b.length≤2000000) (hl:∀ p ∈ l,p.okR) (hT:(txR l).length≤1000000) :
    ∃ ob,Rw (.pb (txApp b l).1) 0 ob∧evT X 15 [a,A] H = some (.tup [.sl H.length 0 (txApp b l).1.length 0,.int .i64 (txApp b l).2],H ++ [some ob]):=by
  obtain ⟨d,pv,xv,hpv,hd,hxv⟩:=args_v (f:=15) (i:=1) rfl hA (args_nil 2)
  obtain ⟨c,p,xl,hp,hc,hx'⟩:=args_byt (C:=X) (f:=15) (i:=0) rfl h hxv
  obtain ⟨code,hcode,hr⟩:=tapp_code c b d l hc hb hl hT
  obtain ⟨ob,q1,q2⟩:=Ev1.newB (H:=H) (n:=(txApp b l).1.length) (l:=(txApp b l).1) (rest:=[.int .i64 (txApp b l).2]) (evT_below X) Tryz.func15 hcode hx' (by simp [idsL,ids,hp.ids,hpv.ids]) (by simp [gtag]) rfl rfl rfl (by
    obtain ⟨o,⟨he,o1,g,ob,q1,q2,q3,q4⟩,hrun⟩:=hr
    exact ⟨o,⟨he,o1,g,ob,by show some [getF o.fr 4,getF o.fr 5] = _;rw [q1,q2],q3,q4⟩,by rw [par15,coB hp,coV hpv,coerce_nil];exact hrun⟩)
  exact ⟨ob,q1,evT_eq q2⟩
end Go.Proofs.YtafdnpcamepbmaaGreatDoor
namespace Go.Proofs.YtafdnpcamepbmaaGreatDoor
open Go.AM
def tnHp (l:List Va) (H:AM.Heap):Prop:=∃ ob,H[1]? = some (some ob)∧Rw (.pr 12 (l.map Va.pay)) 0 ob
theorem tnHp.push {l:List Va} {H:AM.Heap} (h:tnHp l H) (x:AM.Heap):tnHp l (H ++ x):=by
  obtain ⟨ob,h2,h3⟩:=h
  exact ⟨ob,at_cat h2,h3⟩
theorem bvT7 (s:List UInt8):buildV X 41 [(0,.int .i64 7),(3,.str s)] = some (.agg (Va.pay { k:=7,t:=s })):=by kernel_rfl
section
variable (e:Nat) (ts:List Ty) (l:List Va)
def tnFr (n i:Nat):AM.Frame:=[(6,.sl 1 0 n 0),(21,tyA e ts),(22,.int .i64 (ts.length:Nat)),(23,.int .i64 (i:Nat))]
def tnFm (n i k:Nat) (tl:AM.Frame):AM.Frame:=[(6,.sl 1 0 n 0),(8,.int .i64 (i:Nat)),(9,.ptr k 0 0 0),(21,tyA e ts),(22,.int .i64 (ts.length:Nat)),(23,.int .i64 (i:Nat))] ++ tl
theorem tn6 (n i:Nat) (t:Ty) (H:AM.Heap) (ht:ts[i]? = some t) :
    ∃ code,((Tryz.f11.body).bind (codeAt [1,1,1,0,1,0,0,1,1,0,0,0])) = some code∧Run X (evT X) 11 0 code (tnFr e ts n i ++ [(24,.bool true)]) H ⟨.normal,tnFm e ts n i H.length [],H ++ [some (tyO t)]⟩:=by
  refine ⟨_,rfl,?_⟩
  have hTl:(ts.map Ty.pay).length = ts.length:=List.length_map _
  have hrow:(ts.map Ty.pay)[i]? = some t.pay:=by rw [List.getElem?_map,ht];rfl
  have hlt:=at_lt ht
  have hiI:(i:Int) < (ts.length:Int):=by omega
  have hnew:∀ x:Option AM.Obj,(H ++ [x])[H.length]? = some x:=fun x=>by simp
  unfold tnFr tnFm tyA
  generalize ts.map Ty.pay = T at *
  simp only [Ty.pay] at hrow
  (refine ⟨0,?_⟩;simp (maxSteps:=2000000) -implicitDefEqProofs [-getElem?_pos,go_sem,eqV,plen,hiI,hlt,hTl,hrow,tyO,Ty.pay,retagL,retag,retagP,flatCells,splice,scalars,scalar,hnew,mkTy])
theorem tn7 (n i k:Nat) (t:Ty) (H:AM.Heap) (hk:H[k]? = some (some (tyO t))) :
    ∃ code,((Tryz.f11.body).bind (codeAt [1,1,1,0,1,0,0,1,1,0,0,1,0,0])) = some code∧Run X (evT X) 11 0 code (tnFm e ts n i k []) H ⟨.normal,tnFm e ts n i k [(35,.bool (bad45 t))],H⟩:=by
  refine ⟨_,rfl,?_⟩
  unfold tnFm tyA bad45
  generalize ts.map Ty.pay = T at *
  by_cases h4:t.t = 4
  · (refine ⟨0,?_⟩;simp (maxSteps:=2000000) -implicitDefEqProofs [-getElem?_pos,go_sem,eqV,plen,hk,tyO,Ty.pay,h4])
  have b4:((t.t:Int) == 4) = false:=by simp;omega
  by_cases h5:t.t = 5
  · (refine ⟨0,?_⟩;simp (maxSteps:=2000000) -implicitDefEqProofs [-getElem?_pos,go_sem,eqV,plen,hk,tyO,Ty.pay,h4,h5,b4])
  have b5:((t.t:Int) == 5) = false:=by simp;omega
  (refine ⟨0,?_⟩;simp (maxSteps:=2000000) -implicitDefEqProofs [-getElem?_pos,go_sem,eqV,plen,hk,tyO,Ty.pay,h4,h5,b4,b5])
theorem tn9 (i k:Nat) (v:Va) (H:AM.Heap) (hv:l[i]? = some v) (hH:tnHp l H) :
    ∃ code,((Tryz.f11.body).bind (codeAt [1,1,1,0,1,0,0,1,1,0,0,1,1,0])) = some code∧Run X (evT X) 11 0 code (tnFm e ts l.length i k [(35,.bool false)]) H ⟨.normal,tnFm e ts l.length i k [(41,.bool (decide (v.k ≠ 0)))],H⟩:=by
  refine ⟨_,rfl,?_⟩
  obtain ⟨⟨p,g,cap,z,row,ids,tg⟩,h1,q1,q2,q3,q4,q5⟩:=hH
  simp only at q1 q2 q3 q4 q5
  subst q1 q2 q3 q4 q5
  have hlt:=at_lt hv
  have hiI:(i:Int) < (l.length:Int):=by omega
  have hrow:(l.map Va.pay)[i]? = some v.pay:=by rw [List.getElem?_map,hv];rfl
  unfold tnFm tyA
  generalize ts.map Ty.pay = T at *
  generalize l.map Va.pay = L at *
  generalize l.length = n at *
  simp only [Va.pay] at hrow
  by_cases hk:v.k = 0
  · (refine ⟨0,?_⟩;simp (maxSteps:=2000000) -implicitDefEqProofs [-getElem?_pos,go_sem,eqV,plen,h1,hiI,hlt,hrow,hk,retagL,retag,retagP,flatCells,splice,scalars,scalar])
  have hkb:(v.k == 0) = false:=by simpa using hk
  (refine ⟨0,?_⟩;simp (maxSteps:=2000000) -implicitDefEqProofs [-getElem?_pos,go_sem,eqV,plen,h1,hiI,hlt,hrow,hk,hkb,retagL,retag,retagP,flatCells,splice,scalars,scalar])
end
end Go.Proofs.YtafdnpcamepbmaaGreatDoor
namespace Go.Proofs.YtafdnpcamepbmaaGreatDoor
open Go.AM
section
variable (e:Nat) (ts:List Ty) (l:List Va)
def tnFs (n i:Nat) (s:List UInt8):AM.Frame:=[(6,.sl 1 0 n 0),(8,.int .i64 (i:Nat)),(10,.str s),(21,tyA e ts),(22,.int .i64 (ts.length:Nat)),(23,.int .i64 (i:Nat))]
theorem tn10 (i k:Nat) (v:Va) (t:Ty) (H:AM.Heap) (hv:l[i]? = some v) (hok:v.okR) (ht:t.t < 256) (hk:H[k]? = some (some (tyO t))) (hH:tnHp l H) :
    ∃ code,((Tryz.f11.body).bind (codeAt [1,1,1,0,1,0,0,1,1,0,0,1,1,1,0,0])) = some code∧Run X (evT X) 11 0 code (tnFm e ts l.length i k [(41,.bool true)]) H ⟨.normal,tnFs e ts l.length i (vtX v t).1,H⟩:=by
  refine ⟨_,rfl,?_⟩
  have hT:=text_ev (H:=H) (v:=v) (t:=t) ht hok.1 hok.2
  obtain ⟨⟨p,g,cap,z,row,ids,tg⟩,h1,q1,q2,q3,q4,q5⟩:=hH
  simp only at q1 q2 q3 q4 q5
  subst q1 q2 q3 q4 q5
  have hlt:=at_lt hv
  have hiI:(i:Int) < (l.length:Int):=by omega
  have hrow:(l.map Va.pay)[i]? = some v.pay:=by rw [List.getElem?_map,hv];rfl
  generalize vtX v t = x at *
  unfold tnFm tnFs tyA
  generalize ts.map Ty.pay = T at *
  generalize l.map Va.pay = L at *
  generalize l.length = n at *
  simp only [Va.pay,Ty.pay] at hrow hT
  (refine ⟨0,?_⟩;simp (maxSteps:=2000000) -implicitDefEqProofs [-getElem?_pos,go_sem,eqV,plen,h1,hk,hiI,hlt,hrow,hT,tyO,Ty.pay,mkVa,mkTy,retagL,retag,retagP,flatCells,splice,scalars,scalar])
theorem tn11 (i:Nat) (v:Va) (s:List UInt8) (H:AM.Heap) (hv:l[i]? = some v) (hH:tnHp l H) :
    ∃ H',tnHp (l.set i { k:=7,t:=s }) H'∧∃ code,((Tryz.f11.body).bind (codeAt [1,1,1,0,1,0,0,1,1,0,0,1,1,1,0,1])) = some code∧Run X (evT X) 11 0 code (tnFs e ts l.length i s) H ⟨.normal,tnFr e ts l.length i,H'⟩:=by
  obtain ⟨⟨p,g,cap,z,row,ids,tg⟩,h1,q1,q2,q3,q4,q5⟩:=hH
  simp only at q1 q2 q3 q4 q5
  subst q1 q2 q3 q4 q5
  refine ⟨upd H 1 (some ⟨.pr 12 ((l.map Va.pay).set i (Va.pay { k:=7,t:=s })),0,cap,z,true,false,0⟩),⟨_,at_set h1,by rw [List.map_set],rfl,rfl,rfl,rfl⟩,_,rfl,?_⟩
  have hlt:=at_lt hv
  have hiI:(i:Int) < (l.length:Int):=by omega
  have hrow:(l.map Va.pay)[i]? = some v.pay:=by rw [List.getElem?_map,hv];rfl
  have hbv:=bvT7 s
  unfold tnFs tnFr tyA
  generalize ts.map Ty.pay = T at *
  generalize l.map Va.pay = L at *
  generalize l.length = n at *
  simp only [Va.pay,Int.cast_ofNat_Int] at hrow hbv ⊢
  (refine ⟨0,?_⟩;simp (maxSteps:=2000000) -implicitDefEqProofs [-getElem?_pos,go_sem,eqV,plen,h1,hiI,hlt,hrow,hbv,mkVa,freezeL,freeze,freezeP,joinTags,joinTag,tags,tagsL,ids,idsL,retagL,retag,retagP,flatCells,splice,scalars,scalar])
end
end Go.Proofs.YtafdnpcamepbmaaGreatDoor
namespace Go.Proofs.YtafdnpcamepbmaaGreatDoor
open Go.AM
def tnQ (x:List UInt8 × Int) (fr:AM.Frame) (H:AM.Heap):Prop:=∃ o g ob,getF fr 4 = .sl o 0 x.1.length g∧getF fr 5 = .int .i64 x.2∧H[o]? = some (some ob)∧Rw (.pb x.1) g ob
section
variable (e:Nat) (ts:List Ty) (l:List Va)
theorem tn_round (i:Nat) (v:Va) (t:Ty) (H:AM.Heap) (hl:l.length = ts.length) (hv:l[i]? = some v) (ht:ts[i]? = some t) (hok:v.okR) (h256:t.t < 256) (hH:tnHp (trZ l ts i) H) :
    ∃ code,((Tryz.f11.body).bind (codeAt [1,1,1,0,1,0,0,1,1,0])) = some code ∧
      Tells (Or2 (fun fr H'=>bad45 t = false∧(fr = tnFr e ts l.length i∨∃ k,fr = tnFm e ts l.length i k [(41,.bool false)])∧tnHp (trZ l ts (i + 1)) H') (fun out=>out.ex = .ret∧bad45 t = true∧tnQ ([],2) out.fr out.H))
       X (evT X) 11 0 code (tnFr e ts l.length i ++ [(24,.bool true)]) H:=by
  refine ⟨_,rfl,?_⟩
  refine Tells.blkOr ?_ (by rintro o ⟨h,_⟩;rw [h];simp)
  apply Tells.seq (piece (P:=fun cd=>Run X (evT X) _ 0 cd _ _ _) (tn6 e ts l.length i t H ht) _ rfl)
  have hnew:(H ++ [some (tyO t)])[H.length]? = some (some (tyO t)):=by simp
  have hH2:=hH.push [some (tyO t)]
  generalize H.length = k at *
  generalize H ++ [some (tyO t)] = H2 at *
  have h7:=tn7 e ts l.length i k t H2 hnew
  cases hb:bad45 t with
  | true =>
    rw [hb] at h7
    refine Tells.of (o:=⟨.ret,[(4,.sl H2.length 0 0 0),(5,.int .i64 2)],H2 ++ [some nilB]⟩) ?_ (.inr ⟨by simp,rfl,rfl,H2.length,0,nilB,rfl,rfl,by simp,nilB_rw⟩)
    apply Run.seq_out (hne:=by simp)
    apply Run.seq (piece (P:=fun cd=>Run X (evT X) _ 0 cd _ _ _) h7 _ rfl)
    refine condT (by simp [evalO,getF,tnFm]) ?_
    refine ⟨0,?_⟩
    unfold tnFm tyA
    generalize ts.map Ty.pay = T at *
    simp (maxSteps:=2000000) -implicitDefEqProofs [-getElem?_pos,go_sem,eqV,plen,assignV,emB]
  | false =>
  rw [hb] at h7
  apply Tells.seq (fr':=tnFm e ts l.length i k [(35,.bool false)]) (H':=H2)
  · apply Run.seq (piece (P:=fun cd=>Run X (evT X) _ 0 cd _ _ _) h7 _ rfl)
    exact condF (by simp [evalO,getF,tnFm]) ⟨0,rfl⟩
  have hz:=trZ_at hl hv
  have hzl:=trZ_len hl i
  have h9:=tn9 e ts (trZ l ts i) i k v H2 hz hH2
  rw [hzl] at h9
  apply Tells.seq (piece (P:=fun cd=>Run X (evT X) _ 0 cd _ _ _) h9 _ rfl)
  by_cases hk:v.k = 0
  · rw [decide_eq_false (by simpa using hk)]
    refine Tells.of (o:=⟨.normal,tnFm e ts l.length i k [(41,.bool false)],H2⟩) ?_ (.inl ⟨rfl,rfl,.inr ⟨k,rfl⟩,by rw [trZ_same hl hv ht hk];exact hH2⟩)
    refine condF (by simp [evalO,getF,tnFm]) ?_
    exact ⟨0,rfl⟩
  · rw [decide_eq_true (by simpa using hk)]
    have h10:=tn10 e ts (trZ l ts i) i k v t H2 hz hok h256 hnew hH2
    obtain ⟨H3,hH3,h11⟩:=tn11 e ts (trZ l ts i) i v (vtX v t).1 H2 hz hH2
    rw [hzl] at h10 h11
    rw [show ({ k:=7,t:=(vtX v t).1 }:Va) = trnV v t by unfold trnV;rw [if_neg hk],trZ_set hl hv ht] at hH3
    refine Tells.of (o:=⟨.normal,tnFr e ts l.length i,H3⟩) ?_ (.inl ⟨rfl,rfl,.inl rfl,hH3⟩)
    refine condT (by simp [evalO,getF,tnFm]) ?_
    exact Run.seq (piece (P:=fun cd=>Run X (evT X) _ 0 cd _ _ _) h10 _ rfl) (piece (P:=fun cd=>Run X (evT X) _ 0 cd _ _ _) h11 _ rfl)
theorem tn_loop (H:AM.Heap) (hl:l.length = ts.length) (hn:ts.length≤4096) (hok:∀ v ∈ l,v.okR) (h256:∀ t ∈ ts,t.t < 256) (hH:tnHp l H) :
    ∃ code,((Tryz.f11.body).bind (codeAt [1,1,1,0,1])) = some code ∧
      Tells (Or2 (fun fr H'=>ts.any bad45 = false∧fr = tnFr e ts l.length ts.length ++ [(24,.bool false)]∧tnHp (List.zipWith trnV l ts) H') (fun out=>out.ex = .ret∧ts.any bad45 = true∧tnQ ([],2) out.fr out.H))
       X (evT X) 11 0 code (tnFr e ts l.length 0) H:=by
  refine ⟨_,rfl,?_⟩
  apply Tells.blockOr
  refine Tells.loopP (fun k fr H=>∃ i,k = ts.length - i∧i≤ts.length∧fr = tnFr e ts l.length i∧(∀ (j:Nat) t,j < i→ts[j]? = some t→bad45 t = false)∧tnHp (trZ l ts i) H) ?_ (k:=ts.length) ⟨0,rfl,by omega,rfl,by intro j t h;omega,by rw [trZ_zero];exact hH⟩
  rintro k fr H ⟨i,rfl,hi,rfl,hall,hH⟩
  by_cases hin:i = ts.length
  · subst hin
    refine Tells.of (o:=⟨.exit 0,tnFr e ts l.length ts.length ++ [(24,.bool false)],H⟩) ⟨0,?_⟩ (.inr ⟨by simp,.inl ⟨rfl,?_,rfl,by rw [← trZ_all hl,hl];exact hH⟩⟩)
    · unfold tnFr tyA
      generalize ts.map Ty.pay = T at *
      simp (maxSteps:=2000000) -implicitDefEqProofs [-getElem?_pos,go_sem,eqV,plen]
    · rw [List.any_eq_false]
      intro t ht
      obtain ⟨j,hj,rfl⟩:=List.getElem_of_mem ht
      rw [hall j _ hj (List.getElem?_eq_getElem hj)];simp
  have hiI:(i:Int) < (ts.length:Int):=by omega
  obtain ⟨t,ht⟩:∃ t,ts[i]? = some t:=⟨_,List.getElem?_eq_getElem (show i < ts.length by omega)⟩
  obtain ⟨v,hv⟩:∃ v,l[i]? = some v:=⟨_,List.getElem?_eq_getElem (show i < l.length by omega)⟩
  apply Tells.seq (fr':=tnFr e ts l.length i ++ [(24,.bool true)]) (H':=H)
  · unfold tnFr tyA
    generalize ts.map Ty.pay = T at *
    (refine ⟨0,?_⟩;simp (maxSteps:=2000000) -implicitDefEqProofs [-getElem?_pos,go_sem,eqV,plen,hiI])
  apply Tells.seq (fr':=tnFr e ts l.length i ++ [(24,.bool true)]) (H':=H)
  · refine condT (by simp [evalO,getF,tnFr]) ?_
    exact ⟨0,rfl⟩
  apply Tells.or (P:=fun fr H'=>bad45 t = false∧(fr = tnFr e ts l.length i∨∃ k,fr = tnFm e ts l.length i k [(41,.bool false)])∧tnHp (trZ l ts (i + 1)) H')
  · refine (piece (tn_round e ts l i v t H hl hv ht (hok v (List.mem_of_getElem? hv)) (h256 t (List.mem_of_getElem? ht)) hH) _ rfl).mono ?_
    rintro o (h | ⟨h1,h2,h3,h4⟩)
    · exact .inl h
    · exact .inr ⟨h1,.inr ⟨h1,.inr ⟨h2,h2,List.any_eq_true.2 ⟨t,List.mem_of_getElem? ht,h3⟩,h4⟩⟩⟩
  rintro fr H' ⟨hb,hfr,h3⟩
  have w1:IntKind.i64.wrap ((i:Int) + 1) = ((i + 1:Nat):Int):=by rw [wrap_i64 (by omega) (by omega)];omega
  refine Tells.of (o:=⟨.normal,tnFr e ts l.length (i + 1),H'⟩) ⟨0,?_⟩ (.inl ⟨rfl,ts.length - (i + 1),by omega,i + 1,rfl,by omega,rfl,?_,h3⟩)
  · rcases hfr with rfl | ⟨k,rfl⟩
    · unfold tnFr tyA
      generalize ts.map Ty.pay = T at *
      simp (maxSteps:=2000000) -implicitDefEqProofs [-getElem?_pos,go_sem,eqV,plen,w1]
    · unfold tnFm tnFr tyA
      generalize ts.map Ty.pay = T at *
      simp (maxSteps:=2000000) -implicitDefEqProofs [-getElem?_pos,go_sem,eqV,plen,w1]
  · intro j t' hj ht'
    by_cases hji:j = i
    · subst hji;rw [ht] at ht';cases ht';exact hb
    · exact hall j t' (by omega) ht'
end
end Go.Proofs.YtafdnpcamepbmaaGreatDoor
