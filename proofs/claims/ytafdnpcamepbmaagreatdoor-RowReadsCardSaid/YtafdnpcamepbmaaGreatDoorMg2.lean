/- V1 to VJ: texts of this claim, one behind the other; what each shows stands at its head. -/
import Derived.Test.YtafdnpcamepbmaaGreatDoorAm3
import Derived.Test.YtafdnpcamepbmaaGreatDoorMg1
set_option linter.unusedSimpArgs false
set_option linter.unusedVariables false
set_option maxRecDepth 100000
set_option maxHeartbeats 8000000
namespace Go.Proofs.YtafdnpcamepbmaaGreatDoor
open Go.AM
structure Wh where
  neg:Bool:=false
  y:Int:=0
  mo:Int:=0
  d:Int:=0
  h:Int:=0
  mi:Int:=0
  s:Int:=0
  us:Int:=0
  deriving DecidableEq
structure Va where
  k:Int:=0
  i:Int:=0
  b:Nat:=0
  t:List UInt8:=[]
  w:Wh:={}
  deriving DecidableEq
structure Ty where
  t:Nat
  u:Bool
def Wh.pay (w:Wh):AV:=.pc [.bool w.neg,.int .i64 w.y,.int .i64 w.mo,.int .i64 w.d,.int .i64 w.h,.int .i64 w.mi,.int .i64 w.s,.int .i64 w.us]
def Va.pay (v:Va):AV:=.pc [.int .i64 v.k,.int .i64 v.i,.int .u64 (v.b:Nat),.str v.t,.bool v.w.neg,.int .i64 v.w.y,.int .i64 v.w.mo,.int .i64 v.w.d,.int .i64 v.w.h,.int .i64 v.w.mi,.int .i64 v.w.s,.int .i64 v.w.us]
def Ty.pay (t:Ty):AV:=.pc [.int .u8 (t.t:Nat),.bool t.u]
def whO (w:Wh):AM.Obj:=⟨w.pay,0,some 8,1,false,true,0⟩
def vaO (v:Va):AM.Obj:=⟨v.pay,0,some 12,1,false,true,0⟩
def tyO (t:Ty):AM.Obj:=⟨t.pay,0,some 2,1,false,true,0⟩
theorem mkWh (l:List AV):mkAgg X 39 l = some (.pc l):=by kernel_rfl
theorem mkVa (l:List AV):mkAgg X 41 l = some (.pc l):=by kernel_rfl
theorem mkTy (l:List AV):mkAgg X 44 l = some (.pc l):=by kernel_rfl
theorem args_wh {f i:Nat} {H:AM.Heap} {w:Wh} {r ys:List AV} {xs:List Lent} (hr:lendArgs X f H (i + 1) r = some (ys,xs)) (hrw:X.rw f i = false:=by rfl) :
    lendArgs X f H i (.agg w.pay :: r) = some (.agg w.pay :: ys,⟨[],[]⟩ :: xs):=by
  simp [lendArgs,hrw,hr,lendV,Wh.pay,lendL,lend1,tags]
theorem args_va {f i:Nat} {H:AM.Heap} {v:Va} {r ys:List AV} {xs:List Lent} (hr:lendArgs X f H (i + 1) r = some (ys,xs)) (hrw:X.rw f i = false:=by rfl) :
    lendArgs X f H i (.agg v.pay :: r) = some (.agg v.pay :: ys,⟨[],[]⟩ :: xs):=by
  simp [lendArgs,hrw,hr,lendV,Va.pay,lendL,lend1,tags]
theorem args_ty {f i:Nat} {H:AM.Heap} {t:Ty} {r ys:List AV} {xs:List Lent} (hr:lendArgs X f H (i + 1) r = some (ys,xs)) (hrw:X.rw f i = false:=by rfl) :
    lendArgs X f H i (.agg t.pay :: r) = some (.agg t.pay :: ys,⟨[],[]⟩ :: xs):=by
  simp [lendArgs,hrw,hr,lendV,Ty.pay,lendL,lend1,tags]
def kindN (t:Nat) (u:Bool):Int:=if kn t = false then -1 else if t = 1∨t = 2∨t = 13∨t = 3∨t = 9∨t = 8 then (if u then 2 else 1) else if t = 4 then 3 else if t = 5 then 4 else if t = 7∨t = 10∨t = 12 then 5 else if t = 11 then 6 else if t = 6 then 0 else 7
def sizeN (t:Nat):Nat:=if t = 1 then 1 else if t = 2∨t = 13 then 2 else if t = 3∨t = 9∨t = 4 then 4 else if t = 8∨t = 5 then 8 else 0
def rsizeN (t:Nat):Nat:=if t = 1 then 1 else if t = 2∨t = 13 then 2 else if t = 3∨t = 9∨t = 4 then 4 else 8
theorem rowNames:RowsOk X [⟨60,[],.agg (.pc nmL),[]⟩] :=
  RowsOk.cons (T:=fun _ _ _=>none) (n:=50) Below.none RowsOk.nil (by kernel_rfl)
theorem kind_each {j:Nat} (hj:j < 512) (H:AM.Heap):Ev1 X 22 [.agg (.pc [.int .u8 ((j / 2:Nat):Int),.bool (j % 2 == 1)])] H (.int .i64 (kindN (j / 2) (j % 2 == 1)),H) :=
  Ev1.each (T:=tabF [⟨60,[],.agg (.pc nmL),[]⟩]) (tabF_below rowNames) (n:=60) (f:=22) (N:=512) (a:=fun j=>.agg (.pc [.int .u8 ((j / 2:Nat):Int),.bool (j % 2 == 1)])) (v:=fun j=>.int .i64 (kindN (j / 2) (j % 2 == 1))) (by kernel_rfl) (fun _=>rfl) hj H
theorem kind_ev {t:Ty} (ht:t.t < 256) (H:AM.Heap):evT X 22 [.agg t.pay] H = some (.int .i64 (kindN t.t t.u),H):=by
  obtain ⟨t,u⟩:=t
  simp only at ht
  have h1:(2 * t + (if u then 1 else 0)) / 2 = t:=by split <;> omega
  have h2:((2 * t + (if u then 1 else 0)) % 2 == 1) = u:=by
    cases u
    · simp
    · simp only [if_true]
      rw [show (2 * t + 1) % 2 = 1 by omega];rfl
  have:=kind_each (j:=2 * t + (if u then 1 else 0)) (by split <;> omega) H
  rw [h1,h2] at this
  exact evT_eq this
theorem rkind_each {j:Nat} (hj:j < 512) (H:AM.Heap):Ev1 X 26 [.agg (.pc [.int .u8 ((j / 2:Nat):Int),.bool (j % 2 == 1)])] H (.int .i64 (kindN (j / 2) (j % 2 == 1)),H) :=
  Ev1.each (T:=fun _ _ _=>none) Below.none (n:=60) (f:=26) (N:=512) (a:=fun j=>.agg (.pc [.int .u8 ((j / 2:Nat):Int),.bool (j % 2 == 1)])) (v:=fun j=>.int .i64 (kindN (j / 2) (j % 2 == 1))) (by kernel_rfl) (fun _=>rfl) hj H
theorem rkind_ev {t:Ty} (ht:t.t < 256) (H:AM.Heap):evT X 26 [.agg t.pay] H = some (.int .i64 (kindN t.t t.u),H):=by
  obtain ⟨t,u⟩:=t
  simp only at ht
  have h1:(2 * t + (if u then 1 else 0)) / 2 = t:=by split <;> omega
  have h2:((2 * t + (if u then 1 else 0)) % 2 == 1) = u:=by
    cases u
    · simp
    · simp only [if_true]
      rw [show (2 * t + 1) % 2 = 1 by omega];rfl
  have:=rkind_each (j:=2 * t + (if u then 1 else 0)) (by split <;> omega) H
  rw [h1,h2] at this
  exact evT_eq this
theorem size_ev' {k:Nat} (hk:k < 256) (H:AM.Heap):evT X 43 [.int .u8 (k:Nat)] H = some (.int .i64 (sizeN k:Nat),H) :=
  evT_eq (Ev1.each (T:=fun _ _ _=>none) Below.none (n:=50) (f:=43) (N:=256) (a:=fun k=>.int .u8 (k:Nat)) (v:=fun k=>.int .i64 (sizeN k:Nat)) (by kernel_rfl) (fun _=>rfl) hk H)
theorem rsize_ev' {k:Nat} (hk:k < 256) (H:AM.Heap):evT X 63 [.int .u8 (k:Nat)] H = some (.int .i64 (rsizeN k:Nat),H) :=
  evT_eq (Ev1.each (T:=fun _ _ _=>none) Below.none (n:=50) (f:=63) (N:=256) (a:=fun k=>.int .u8 (k:Nat)) (v:=fun k=>.int .i64 (rsizeN k:Nat)) (by kernel_rfl) (fun _=>rfl) hk H)
def btw (x l m:Int):Bool:=decide (l≤x∧x≤m)
theorem btw_code (x l m:Int):∃ code,Tryz.f73.body = some code ∧
    Run X (evT X) 73 0 code [(0,.int .i64 x),(1,.int .i64 l),(2,.int .i64 m)] [] ⟨.ret,[(6,.bool (btw x l m))],[]⟩:=by
  refine ⟨_,rfl,0,?_⟩
  unfold btw
  by_cases h:l≤x
  · simp (maxSteps:=2000000) -implicitDefEqProofs [-getElem?_pos,go_sem,eqV,plen,h]
  · simp (maxSteps:=2000000) -implicitDefEqProofs [-getElem?_pos,go_sem,eqV,plen,h]
theorem btw_ev (x l m:Int) (H:AM.Heap):evT X 73 [.int .i64 x,.int .i64 l,.int .i64 m] H = some (.bool (btw x l m),H):=by
  obtain ⟨code,hcode,hr⟩:=btw_code x l m
  exact evT_eq (Ev1.toldP (l:=[.bool (btw x l m)]) (evT_below X) Tryz.func73 hcode (args_flat (i:=0) rfl rfl (args_flat (i:=1) rfl rfl (args_flat (i:=2) rfl rfl (args_nil 3)))) rfl (by simp [gtag]) rfl rfl rfl ⟨_,⟨rfl,rfl⟩,hr⟩)
def clk (w:Wh):Bool:=btw w.h 0 23 && (btw w.mi 0 59 && (btw w.s 0 59 && btw w.us 0 999999))
def mid (w:Wh):Bool:=decide (w.h = 0∧w.mi = 0∧w.s = 0∧w.us = 0)
section
variable (w:Wh)
theorem clock_code:∃ code,Tryz.f72.body = some code ∧
    Run X (evT X) 72 0 code [(0,.agg w.pay)] [] ⟨.ret,[(2,.bool (clk w))],[some (whO w)]⟩:=by
  refine ⟨_,rfl,0,?_⟩
  have hB:=btw_ev
  unfold clk
  cases h1:btw w.h 0 23 with
  | false=>simp (maxSteps:=2000000) -implicitDefEqProofs [-getElem?_pos,go_sem,eqV,plen,whO,Wh.pay,hB,h1]
  | true =>
  cases h2:btw w.mi 0 59 with
  | false=>simp (maxSteps:=2000000) -implicitDefEqProofs [-getElem?_pos,go_sem,eqV,plen,whO,Wh.pay,hB,h1,h2]
  | true =>
  cases h3:btw w.s 0 59 with
  | false=>simp (maxSteps:=2000000) -implicitDefEqProofs [-getElem?_pos,go_sem,eqV,plen,whO,Wh.pay,hB,h1,h2,h3]
  | true=>simp (maxSteps:=2000000) -implicitDefEqProofs [-getElem?_pos,go_sem,eqV,plen,whO,Wh.pay,hB,h1,h2,h3]
theorem rclock_code:∃ code,Tryz.f84.body = some code ∧
    Run X (evT X) 84 0 code [(0,.agg w.pay)] [] ⟨.ret,[(2,.bool (clk w))],[some (whO w)]⟩:=by
  refine ⟨_,rfl,0,?_⟩
  unfold clk btw
  by_cases h1:0≤w.h
  case neg=>simp (maxSteps:=2000000) -implicitDefEqProofs [-getElem?_pos,go_sem,eqV,plen,whO,Wh.pay,h1]
  by_cases h2:w.h≤23
  case neg=>simp (maxSteps:=2000000) -implicitDefEqProofs [-getElem?_pos,go_sem,eqV,plen,whO,Wh.pay,h1,h2]
  by_cases h3:0≤w.mi
  case neg=>simp (maxSteps:=2000000) -implicitDefEqProofs [-getElem?_pos,go_sem,eqV,plen,whO,Wh.pay,h1,h2,h3]
  by_cases h4:w.mi≤59
  case neg=>simp (maxSteps:=2000000) -implicitDefEqProofs [-getElem?_pos,go_sem,eqV,plen,whO,Wh.pay,h1,h2,h3,h4]
  by_cases h5:0≤w.s
  case neg=>simp (maxSteps:=2000000) -implicitDefEqProofs [-getElem?_pos,go_sem,eqV,plen,whO,Wh.pay,h1,h2,h3,h4,h5]
  by_cases h6:w.s≤59
  case neg=>simp (maxSteps:=2000000) -implicitDefEqProofs [-getElem?_pos,go_sem,eqV,plen,whO,Wh.pay,h1,h2,h3,h4,h5,h6]
  by_cases h7:0≤w.us
  case neg=>simp (maxSteps:=2000000) -implicitDefEqProofs [-getElem?_pos,go_sem,eqV,plen,whO,Wh.pay,h1,h2,h3,h4,h5,h6,h7]
  simp (maxSteps:=2000000) -implicitDefEqProofs [-getElem?_pos,go_sem,eqV,plen,whO,Wh.pay,h1,h2,h3,h4,h5,h6,h7]
theorem mid_code (hc:clk w = true):∃ code,Tryz.f85.body = some code ∧
    Run X (evT X) 85 0 code [(0,.agg w.pay)] [] ⟨.ret,[(2,.bool (mid w))],[some (whO w)]⟩:=by
  refine ⟨_,rfl,0,?_⟩
  unfold clk btw at hc
  simp only [Bool.and_eq_true,decide_eq_true_eq] at hc
  unfold mid
  have w1:IntKind.i64.wrap (w.h + w.mi) = w.h + w.mi:=wrap_i64 (by omega) (by omega)
  have w2:IntKind.i64.wrap (w.h + w.mi + w.s) = w.h + w.mi + w.s:=wrap_i64 (by omega) (by omega)
  have w3:IntKind.i64.wrap (w.h + w.mi + w.s + w.us) = w.h + w.mi + w.s + w.us:=wrap_i64 (by omega) (by omega)
  have e:(w.h + w.mi + w.s + w.us == 0) = decide (w.h = 0∧w.mi = 0∧w.s = 0∧w.us = 0):=by
    rw [Bool.eq_iff_iff,beq_iff_eq,decide_eq_true_eq];omega
  simp (maxSteps:=2000000) -implicitDefEqProofs [-getElem?_pos,go_sem,eqV,plen,whO,Wh.pay,w1,w2,w3,e]
end
theorem clock_ev (w:Wh) (H:AM.Heap):evT X 72 [.agg w.pay] H = some (.bool (clk w),H):=by
  obtain ⟨code,hcode,hr⟩:=clock_code w
  exact evT_eq (Ev1.toldP (l:=[.bool (clk w)]) (evT_below X) Tryz.func72 hcode (args_wh (i:=0) (args_nil 1)) (by simp [Wh.pay,idsL,ids]) (by simp [gtag]) rfl rfl rfl ⟨_,⟨rfl,rfl⟩,hr⟩)
theorem rclock_ev (w:Wh) (H:AM.Heap):evT X 84 [.agg w.pay] H = some (.bool (clk w),H):=by
  obtain ⟨code,hcode,hr⟩:=rclock_code w
  exact evT_eq (Ev1.toldP (l:=[.bool (clk w)]) (evT_below X) Tryz.func84 hcode (args_wh (i:=0) (args_nil 1)) (by simp [Wh.pay,idsL,ids]) (by simp [gtag]) rfl rfl rfl ⟨_,⟨rfl,rfl⟩,hr⟩)
theorem mid_ev {w:Wh} (hc:clk w = true) (H:AM.Heap):evT X 85 [.agg w.pay] H = some (.bool (mid w),H):=by
  obtain ⟨code,hcode,hr⟩:=mid_code w hc
  exact evT_eq (Ev1.toldP (l:=[.bool (mid w)]) (evT_below X) Tryz.func85 hcode (args_wh (i:=0) (args_nil 1)) (by simp [Wh.pay,idsL,ids]) (by simp [gtag]) rfl rfl rfl ⟨_,⟨rfl,rfl⟩,hr⟩)
end Go.Proofs.YtafdnpcamepbmaaGreatDoor
namespace Go.Proofs.YtafdnpcamepbmaaGreatDoor
open Go.AM
theorem eqV_agg {C:AM.Ctx} {H:AM.Heap} {t:TypeId} {a b:List AV} {xo yo:Operand} (h1:isStructT C t = true) (h2:C.P.eqGuardType C.P.depth t = false):eqV C H t (.agg (.pc a)) (.agg (.pc b)) xo yo = eqFlat C 6 t a b:=by
  show (if isStructT C t && !C.P.eqGuardType C.P.depth t then eqFlat C 6 t a b else none) = _
  rw [h1,h2];rfl
theorem whEqF (a:Bool) (y mo d h mi s us:Int) (a':Bool) (y' mo' d' h' mi' s' us':Int) :
    eqFlat X 6 39 [.bool a,.int .i64 y,.int .i64 mo,.int .i64 d,.int .i64 h,.int .i64 mi,.int .i64 s,.int .i64 us] [.bool a',.int .i64 y',.int .i64 mo',.int .i64 d',.int .i64 h',.int .i64 mi',.int .i64 s',.int .i64 us'] =
      some (a == a' && (y == y' && (mo == mo' && (d == d' && (h == h' && (mi == mi' && (s == s' && (us == us' && true)))))))):=by kernel_rfl
theorem stWh:isStructT X 39 = true:=by kernel_rfl
theorem guWh:X.P.eqGuardType X.P.depth 39 = false:=by kernel_rfl
theorem eqWh (w w':Wh) (H:AM.Heap) (xo yo:Operand):eqV X H 39 (.agg w.pay) (.agg w'.pay) xo yo = some (decide (w = w')):=by
  unfold Wh.pay
  rw [eqV_agg stWh guWh]
  have:=whEqF w.neg w.y w.mo w.d w.h w.mi w.s w.us w'.neg w'.y w'.mo w'.d w'.h w'.mi w'.s w'.us
  refine this.trans (congrArg some ?_)
  rw [Bool.eq_iff_iff,decide_eq_true_eq]
  simp only [Bool.and_eq_true,beq_iff_eq,and_true]
  cases w;cases w'
  simp
theorem whEqS (a:Bool) (y mo d h mi s us:Int) (a':Bool) (y' mo' d' h' mi' s' us':Int) (H:AM.Heap) (xo yo:Operand) :
    eqV X H 39 (.agg (.pc [.bool a,.int .i64 y,.int .i64 mo,.int .i64 d,.int .i64 h,.int .i64 mi,.int .i64 s,.int .i64 us])) (.agg (.pc [.bool a',.int .i64 y',.int .i64 mo',.int .i64 d',.int .i64 h',.int .i64 mi',.int .i64 s',.int .i64 us'])) xo yo =
      some (decide ((⟨a,y,mo,d,h,mi,s,us⟩:Wh) = ⟨a',y',mo',d',h',mi',s',us'⟩)):=eqWh ⟨a,y,mo,d,h,mi,s,us⟩ ⟨a',y',mo',d',h',mi',s',us'⟩ H xo yo
def fin (w:Wh) (t:Nat):Bool:=clk w && (if t = 11 then decide (w.y = 0) && (decide (w.mo = 0) && (btw w.d 0 34 && !(w.neg && (decide (w.d = 0) && mid w)))) else (!w.neg && (btw w.y 0 9999 && (btw w.mo 0 12 && (btw w.d 0 31 && (decide (t ≠ 10) || mid w))))))
theorem bdW1:buildV X 39 [(0,.bool true)] = some (.agg (.pc [.bool true,.int .i64 0,.int .i64 0,.int .i64 0,.int .i64 0,.int .i64 0,.int .i64 0,.int .i64 0])):=by kernel_rfl
theorem bdW0:buildV X 39 [] = some (.agg (.pc [.bool false,.int .i64 0,.int .i64 0,.int .i64 0,.int .i64 0,.int .i64 0,.int .i64 0,.int .i64 0])):=by kernel_rfl
theorem bdW3 (y mo d:Int):buildV X 39 [(1,.int .i64 y),(2,.int .i64 mo),(3,.int .i64 d)] = some (.agg (.pc [.bool false,.int .i64 y,.int .i64 mo,.int .i64 d,.int .i64 0,.int .i64 0,.int .i64 0,.int .i64 0])):=by kernel_rfl
section
variable (w:Wh) (t:Nat)
def fnFr:AM.Frame:=[(1,.int .u8 (t:Nat)),(2,.ptr 0 0 0 0)]
theorem fin_code (ht:t < 256):∃ code,Tryz.f55.body = some code ∧
    Run X (evT X) 55 0 code [(0,.agg w.pay),(1,.int .u8 (t:Nat))] [] ⟨.ret,[(4,.bool (fin w t))],[some (whO w)]⟩:=by
  refine ⟨_,rfl,?_⟩
  have hB:=btw_ev
  have hC:=fun H=>clock_ev w H
  have hE:=whEqS
  unfold fin
  simp only [Wh.pay] at hC
  apply Run.seq (fr':=fnFr t) (H':=[some (whO w)])
  · (refine ⟨0,?_⟩;simp (maxSteps:=2000000) -implicitDefEqProofs [-getElem?_pos,go_sem,eqV,plen,whO,Wh.pay,fnFr])
  cases hc:clk w with
  | false =>
    rw [hc] at hC
    apply Run.seq_out (hne:=by simp)
    apply Run.seq (fr':=fnFr t ++ [(7,.bool true)]) (H':=[some (whO w)])
    · (refine ⟨0,?_⟩;simp (maxSteps:=2000000) -implicitDefEqProofs [-getElem?_pos,go_sem,eqV,plen,whO,Wh.pay,mkWh,hC,unV,fnFr])
    refine ⟨0,?_⟩
    simp (maxSteps:=2000000) -implicitDefEqProofs [-getElem?_pos,go_sem,eqV,plen,fnFr]
  | true =>
  rw [hc] at hC
  apply Run.seq (fr':=fnFr t ++ [(7,.bool false)]) (H':=[some (whO w)])
  · (refine ⟨0,?_⟩;simp (maxSteps:=2000000) -implicitDefEqProofs [-getElem?_pos,go_sem,eqV,plen,whO,Wh.pay,mkWh,hC,unV,fnFr])
  by_cases h11:t = 11
  · subst h11
    rw [if_pos rfl]
    apply Run.seq_out (hne:=by simp)
    apply Run.seq (fr':=fnFr 11 ++ [(9,.bool true)]) (H':=[some (whO w)])
    · (refine ⟨0,?_⟩;simp (maxSteps:=2000000) -implicitDefEqProofs [-getElem?_pos,go_sem,eqV,plen,whO,fnFr])
    refine condT (by simp [evalO,getF,fnFr]) ?_
    refine Run.seq (fr':=[(4,.bool (decide (w.y = 0) && (decide (w.mo = 0) && (btw w.d 0 34 && !(w.neg && (decide (w.d = 0) && mid w))))))]) (H':=[some (whO w)]) ?_ ⟨0,by simp [exec]⟩
    by_cases hy:w.y = 0
    case neg =>
      have hyb:(w.y == 0) = false:=by simpa using hy
      (refine ⟨0,?_⟩;simp (maxSteps:=2000000) -implicitDefEqProofs [-getElem?_pos,go_sem,eqV,plen,whO,Wh.pay,fnFr,hyb,hy])
    by_cases hmo:w.mo = 0
    case neg =>
      have hyb:(w.mo == 0) = false:=by simpa using hmo
      (refine ⟨0,?_⟩;simp (maxSteps:=2000000) -implicitDefEqProofs [-getElem?_pos,go_sem,eqV,plen,whO,Wh.pay,fnFr,hy,hyb,hmo])
    cases hd:btw w.d 0 34 with
    | false=>(refine ⟨0,?_⟩;simp (maxSteps:=2000000) -implicitDefEqProofs [-getElem?_pos,go_sem,eqV,plen,whO,Wh.pay,fnFr,hy,hmo,hB,hd])
    | true =>
    cases hn:w.neg with
    | false=>(refine ⟨0,?_⟩;simp (maxSteps:=2000000) -implicitDefEqProofs [-getElem?_pos,go_sem,eqV,plen,whO,Wh.pay,fnFr,hy,hmo,hB,hd,hn,unV])
    | true =>
      have e:decide ((⟨true,0,0,w.d,w.h,w.mi,w.s,w.us⟩:Wh) = ⟨true,0,0,0,0,0,0,0⟩) = (decide (w.d = 0) && mid w):=by
        unfold mid
        rw [Bool.eq_iff_iff];simp
      have hE1:=fun H xo yo=>whEqS true 0 0 w.d w.h w.mi w.s w.us true 0 0 0 0 0 0 0 H xo yo
      rw [e] at hE1
      generalize (decide (w.d = 0) && mid w) = m at *
      clear hE e
      (refine ⟨0,?_⟩;simp (maxSteps:=2000000) -implicitDefEqProofs [-getElem?_pos,go_sem,eqV,plen,-eqV,whO,Wh.pay,fnFr,mkWh,unV,hy,hmo,hB,hd,hn,bdW1,hE1])
  · have h11i:((t:Int) == 11) = false:=by simp;omega
    rw [if_neg h11]
    apply Run.seq (fr':=fnFr t ++ [(9,.bool false)]) (H':=[some (whO w)])
    · (refine ⟨0,?_⟩;simp (maxSteps:=2000000) -implicitDefEqProofs [-getElem?_pos,go_sem,eqV,plen,whO,fnFr,h11i])
    cases hp:(!w.neg && (btw w.y 0 9999 && (btw w.mo 0 12 && btw w.d 0 31))) with
    | false =>
      have e:(!w.neg && (btw w.y 0 9999 && (btw w.mo 0 12 && (btw w.d 0 31 && (decide (t ≠ 10) || mid w))))) = false:=by
        revert hp
        generalize btw w.y 0 9999 = a
        generalize btw w.mo 0 12 = b
        generalize btw w.d 0 31 = c
        generalize w.neg = n
        cases n <;> cases a <;> cases b <;> cases c <;> simp
      rw [e]
      apply Run.seq_out (hne:=by simp)
      apply Run.seq (fr':=fnFr t ++ [(52,.bool true)]) (H':=[some (whO w)])
      · clear e
        cases hn:w.neg with
        | true=>(refine ⟨0,?_⟩;simp (maxSteps:=2000000) -implicitDefEqProofs [-getElem?_pos,go_sem,eqV,plen,whO,Wh.pay,fnFr,hn])
        | false =>
        cases hy:btw w.y 0 9999 with
        | false=>(refine ⟨0,?_⟩;simp (maxSteps:=2000000) -implicitDefEqProofs [-getElem?_pos,go_sem,eqV,plen,whO,Wh.pay,fnFr,hn,hB,hy,unV])
        | true =>
        cases hmo:btw w.mo 0 12 with
        | false=>(refine ⟨0,?_⟩;simp (maxSteps:=2000000) -implicitDefEqProofs [-getElem?_pos,go_sem,eqV,plen,whO,Wh.pay,fnFr,hn,hB,hy,hmo,unV])
        | true =>
        cases hd:btw w.d 0 31 with
        | false=>(refine ⟨0,?_⟩;simp (maxSteps:=2000000) -implicitDefEqProofs [-getElem?_pos,go_sem,eqV,plen,whO,Wh.pay,fnFr,hn,hB,hy,hmo,hd,unV])
        | true=>rw [hn,hy,hmo,hd] at hp;cases hp
      refine ⟨0,?_⟩
      simp (maxSteps:=2000000) -implicitDefEqProofs [-getElem?_pos,go_sem,eqV,plen,fnFr]
    | true =>
      simp only [Bool.and_eq_true,Bool.not_eq_true'] at hp
      obtain ⟨hn,hy,hmo,hd⟩:=hp
      apply Run.seq (fr':=fnFr t ++ [(52,.bool false)]) (H':=[some (whO w)])
      · (refine ⟨0,?_⟩;simp (maxSteps:=2000000) -implicitDefEqProofs [-getElem?_pos,go_sem,eqV,plen,whO,Wh.pay,fnFr,hn,hB,hy,hmo,hd,unV])
      rw [hn,hy,hmo,hd]
      refine Run.seq (fr':=[(4,.bool (decide (t ≠ 10) || mid w))]) (H':=[some (whO w)]) ?_ ⟨0,by simp [exec]⟩
      by_cases h10:t = 10
      · subst h10
        have e:decide ((⟨false,w.y,w.mo,w.d,w.h,w.mi,w.s,w.us⟩:Wh) = ⟨false,w.y,w.mo,w.d,0,0,0,0⟩) = mid w:=by
          unfold mid
          rw [Bool.eq_iff_iff];simp
        have hE1:=fun H xo yo=>whEqS false w.y w.mo w.d w.h w.mi w.s w.us false w.y w.mo w.d 0 0 0 0 H xo yo
        rw [e] at hE1
        generalize mid w = m at *
        clear hE e
        (refine ⟨0,?_⟩;simp (maxSteps:=2000000) -implicitDefEqProofs [-getElem?_pos,go_sem,eqV,plen,-eqV,whO,Wh.pay,fnFr,mkWh,hn,bdW3,hE1])
      · have h10i:((t:Int) != 10) = true:=by simp;omega
        (refine ⟨0,?_⟩;simp (maxSteps:=2000000) -implicitDefEqProofs [-getElem?_pos,go_sem,eqV,plen,whO,fnFr,h10,h10i])
theorem rfin_code (ht:t < 256):∃ code,Tryz.f70.body = some code ∧
    Run X (evT X) 70 0 code [(0,.agg w.pay),(1,.int .u8 (t:Nat))] [] ⟨.ret,[(4,.bool (fin w t))],[some (whO w)]⟩:=by
  refine ⟨_,rfl,?_⟩
  have hC:=fun H=>rclock_ev w H
  unfold fin
  simp only [Wh.pay] at hC
  apply Run.seq (fr':=fnFr t) (H':=[some (whO w)])
  · (refine ⟨0,?_⟩;simp (maxSteps:=2000000) -implicitDefEqProofs [-getElem?_pos,go_sem,eqV,plen,whO,Wh.pay,fnFr])
  cases hc:clk w with
  | false =>
    rw [hc] at hC
    apply Run.seq_out (hne:=by simp)
    apply Run.seq (fr':=fnFr t ++ [(7,.bool true)]) (H':=[some (whO w)])
    · (refine ⟨0,?_⟩;simp (maxSteps:=2000000) -implicitDefEqProofs [-getElem?_pos,go_sem,eqV,plen,whO,Wh.pay,mkWh,hC,unV,fnFr])
    refine ⟨0,?_⟩
    simp (maxSteps:=2000000) -implicitDefEqProofs [-getElem?_pos,go_sem,eqV,plen,fnFr]
  | true =>
  rw [hc] at hC
  have hM:=fun H=>mid_ev hc H
  simp only [Wh.pay] at hM
  unfold btw
  generalize mid w = m at *
  apply Run.seq (fr':=fnFr t ++ [(7,.bool false)]) (H':=[some (whO w)])
  · (refine ⟨0,?_⟩;simp (maxSteps:=2000000) -implicitDefEqProofs [-getElem?_pos,go_sem,eqV,plen,whO,Wh.pay,mkWh,hC,unV,fnFr])
  by_cases h11:t = 11
  · subst h11
    rw [if_pos rfl]
    apply Run.seq_out (hne:=by simp)
    apply Run.seq (fr':=fnFr 11 ++ [(9,.bool true)]) (H':=[some (whO w)])
    · (refine ⟨0,?_⟩;simp (maxSteps:=2000000) -implicitDefEqProofs [-getElem?_pos,go_sem,eqV,plen,whO,fnFr])
    refine condT (by simp [evalO,getF,fnFr]) ?_
    refine Run.seq (fr':=[(4,.bool (decide (w.y = 0) && (decide (w.mo = 0) && (decide (0≤w.d∧w.d≤34) && !(w.neg && (decide (w.d = 0) && m))))))]) (H':=[some (whO w)]) ?_ ⟨0,by simp [exec]⟩
    by_cases hy:w.y = 0
    case neg =>
      have hyb:(w.y == 0) = false:=by simpa using hy
      (refine ⟨0,?_⟩;simp (maxSteps:=2000000) -implicitDefEqProofs [-getElem?_pos,go_sem,eqV,plen,whO,Wh.pay,fnFr,hy,hyb])
    by_cases hmo:w.mo = 0
    case neg =>
      have hyb:(w.mo == 0) = false:=by simpa using hmo
      (refine ⟨0,?_⟩;simp (maxSteps:=2000000) -implicitDefEqProofs [-getElem?_pos,go_sem,eqV,plen,whO,Wh.pay,fnFr,hy,hmo,hyb])
    by_cases hd:0≤w.d
    case neg=>(refine ⟨0,?_⟩;simp (maxSteps:=2000000) -implicitDefEqProofs [-getElem?_pos,go_sem,eqV,plen,whO,Wh.pay,fnFr,hy,hmo,hd])
    by_cases hd2:w.d≤34
    case neg=>(refine ⟨0,?_⟩;simp (maxSteps:=2000000) -implicitDefEqProofs [-getElem?_pos,go_sem,eqV,plen,whO,Wh.pay,fnFr,hy,hmo,hd,hd2])
    cases hn:w.neg with
    | false=>(refine ⟨0,?_⟩;simp (maxSteps:=2000000) -implicitDefEqProofs [-getElem?_pos,go_sem,eqV,plen,whO,Wh.pay,fnFr,unV,hy,hmo,hd,hd2,hn])
    | true =>
    by_cases hd0:w.d = 0
    · rw [hn,hy,hmo,hd0] at hM
      (refine ⟨0,?_⟩;simp (maxSteps:=2000000) -implicitDefEqProofs [-getElem?_pos,go_sem,eqV,plen,whO,Wh.pay,fnFr,mkWh,unV,hy,hmo,hn,hd0,hM])
    · have hd0b:(w.d == 0) = false:=by simpa using hd0
      (refine ⟨0,?_⟩;simp (maxSteps:=2000000) -implicitDefEqProofs [-getElem?_pos,go_sem,eqV,plen,whO,Wh.pay,fnFr,unV,hy,hmo,hd,hd2,hn,hd0,hd0b])
  · have h11i:((t:Int) == 11) = false:=by simp;omega
    rw [if_neg h11]
    apply Run.seq (fr':=fnFr t ++ [(9,.bool false)]) (H':=[some (whO w)])
    · (refine ⟨0,?_⟩;simp (maxSteps:=2000000) -implicitDefEqProofs [-getElem?_pos,go_sem,eqV,plen,whO,fnFr,h11i])
    refine Run.seq (fr':=[(4,.bool (!w.neg && (decide (0≤w.y∧w.y≤9999) && (decide (0≤w.mo∧w.mo≤12) && (decide (0≤w.d∧w.d≤31) && (decide (t ≠ 10) || m))))))]) (H':=[some (whO w)]) ?_ ⟨0,by simp [exec]⟩
    cases hn:w.neg with
    | true=>(refine ⟨0,?_⟩;simp (maxSteps:=2000000) -implicitDefEqProofs [-getElem?_pos,go_sem,eqV,plen,whO,Wh.pay,fnFr,unV,hn])
    | false =>
    by_cases hy:0≤w.y
    case neg=>(refine ⟨0,?_⟩;simp (maxSteps:=2000000) -implicitDefEqProofs [-getElem?_pos,go_sem,eqV,plen,whO,Wh.pay,fnFr,unV,hn,hy])
    by_cases hy2:w.y≤9999
    case neg=>(refine ⟨0,?_⟩;simp (maxSteps:=2000000) -implicitDefEqProofs [-getElem?_pos,go_sem,eqV,plen,whO,Wh.pay,fnFr,unV,hn,hy,hy2])
    by_cases hmo:0≤w.mo
    case neg=>(refine ⟨0,?_⟩;simp (maxSteps:=2000000) -implicitDefEqProofs [-getElem?_pos,go_sem,eqV,plen,whO,Wh.pay,fnFr,unV,hn,hy,hy2,hmo])
    by_cases hmo2:w.mo≤12
    case neg=>(refine ⟨0,?_⟩;simp (maxSteps:=2000000) -implicitDefEqProofs [-getElem?_pos,go_sem,eqV,plen,whO,Wh.pay,fnFr,unV,hn,hy,hy2,hmo,hmo2])
    by_cases hd:0≤w.d
    case neg=>(refine ⟨0,?_⟩;simp (maxSteps:=2000000) -implicitDefEqProofs [-getElem?_pos,go_sem,eqV,plen,whO,Wh.pay,fnFr,unV,hn,hy,hy2,hmo,hmo2,hd])
    by_cases hd2:w.d≤31
    case neg=>(refine ⟨0,?_⟩;simp (maxSteps:=2000000) -implicitDefEqProofs [-getElem?_pos,go_sem,eqV,plen,whO,Wh.pay,fnFr,unV,hn,hy,hy2,hmo,hmo2,hd,hd2])
    by_cases h10:t = 10
    · subst h10
      rw [hn] at hM
      (refine ⟨0,?_⟩;simp (maxSteps:=2000000) -implicitDefEqProofs [-getElem?_pos,go_sem,eqV,plen,whO,Wh.pay,fnFr,mkWh,unV,hn,hy,hy2,hmo,hmo2,hd,hd2,hM])
    · have h10i:((t:Int) != 10) = true:=by simp;omega
      (refine ⟨0,?_⟩;simp (maxSteps:=2000000) -implicitDefEqProofs [-getElem?_pos,go_sem,eqV,plen,whO,Wh.pay,fnFr,unV,hn,hy,hy2,hmo,hmo2,hd,hd2,h10,h10i])
end
theorem fin_ev (w:Wh) {t:Nat} (ht:t < 256) (H:AM.Heap):evT X 55 [.agg w.pay,.int .u8 (t:Nat)] H = some (.bool (fin w t),H):=by
  obtain ⟨code,hcode,hr⟩:=fin_code w t ht
  exact evT_eq (Ev1.toldP (l:=[.bool (fin w t)]) (evT_below X) Tryz.func55 hcode (args_wh (i:=0) (args_flat (i:=1) rfl rfl (args_nil 2))) (by simp [Wh.pay,idsL,ids]) (by simp [gtag]) rfl rfl rfl ⟨_,⟨rfl,rfl⟩,hr⟩)
theorem rfin_ev (w:Wh) {t:Nat} (ht:t < 256) (H:AM.Heap):evT X 70 [.agg w.pay,.int .u8 (t:Nat)] H = some (.bool (fin w t),H):=by
  obtain ⟨code,hcode,hr⟩:=rfin_code w t ht
  exact evT_eq (Ev1.toldP (l:=[.bool (fin w t)]) (evT_below X) Tryz.func70 hcode (args_wh (i:=0) (args_flat (i:=1) rfl rfl (args_nil 2))) (by simp [Wh.pay,idsL,ids]) (by simp [gtag]) rfl rfl rfl ⟨_,⟨rfl,rfl⟩,hr⟩)
end Go.Proofs.YtafdnpcamepbmaaGreatDoor
namespace Go.Proofs.YtafdnpcamepbmaaGreatDoor
open Go.AM
theorem vaEqF (k i b:Int) (t:List UInt8) (a:Bool) (y mo d h mi s us:Int) (k' i' b':Int) (t':List UInt8) (a':Bool) (y' mo' d' h' mi' s' us':Int) :
    eqFlat X 6 41 [.int .i64 k,.int .i64 i,.int .u64 b,.str t,.bool a,.int .i64 y,.int .i64 mo,.int .i64 d,.int .i64 h,.int .i64 mi,.int .i64 s,.int .i64 us] [.int .i64 k',.int .i64 i',.int .u64 b',.str t',.bool a',.int .i64 y',.int .i64 mo',.int .i64 d',.int .i64 h',.int .i64 mi',.int .i64 s',.int .i64 us'] =
      some (k == k' && (i == i' && (b == b' && (t == t' && ((a == a' && (y == y' && (mo == mo' && (d == d' && (h == h' && (mi == mi' && (s == s' && (us == us' && true)))))))) && true))))):=by kernel_rfl
theorem stVa:isStructT X 41 = true:=by kernel_rfl
theorem guVa:X.P.eqGuardType X.P.depth 41 = false:=by kernel_rfl
theorem eqVa (v v':Va) (H:AM.Heap) (xo yo:Operand):eqV X H 41 (.agg v.pay) (.agg v'.pay) xo yo = some (decide (v = v')):=by
  unfold Va.pay
  rw [eqV_agg stVa guVa]
  have:=vaEqF v.k v.i v.b v.t v.w.neg v.w.y v.w.mo v.w.d v.w.h v.w.mi v.w.s v.w.us v'.k v'.i v'.b v'.t v'.w.neg v'.w.y v'.w.mo v'.w.d v'.w.h v'.w.mi v'.w.s v'.w.us
  refine this.trans (congrArg some ?_)
  rw [Bool.eq_iff_iff,decide_eq_true_eq]
  simp only [Bool.and_eq_true,beq_iff_eq,and_true]
  obtain ⟨k,i,b,t,w⟩:=v
  obtain ⟨k',i',b',t',w'⟩:=v'
  cases w;cases w'
  simp only [Va.mk.injEq,Wh.mk.injEq]
  constructor
  · rintro ⟨h1,h2,h3,h4,h5⟩;exact ⟨h1,h2,Int.ofNat.inj h3,h4,h5⟩
  · rintro ⟨h1,h2,h3,h4,h5⟩;exact ⟨h1,h2,by rw [h3],h4,h5⟩
theorem bdV0:buildV X 41 [] = some (.agg ({}:Va).pay):=by kernel_rfl
theorem bdVi (k i:Int):buildV X 41 [(0,.int .i64 k),(1,.int .i64 i)] = some (.agg ({ k:=k,i:=i }:Va).pay):=by kernel_rfl
theorem bdVb (k:Int) (b:Nat):buildV X 41 [(0,.int .i64 k),(2,.int .u64 (b:Nat))] = some (.agg ({ k:=k,b:=b }:Va).pay):=by kernel_rfl
theorem bdVt (k:Int) (t:List UInt8):buildV X 41 [(0,.int .i64 k),(3,.str t)] = some (.agg ({ k:=k,t:=t }:Va).pay):=by kernel_rfl
theorem bdVw (k:Int) (w:Wh):buildV X 41 [(0,.int .i64 k),(4,.agg w.pay)] = some (.agg ({ k:=k,w:=w }:Va).pay):=by kernel_rfl
def okI (i:Int) (n:Nat):Bool:=decide (8≤n) || decide (-(2 ^ (8 * n - 1))≤i∧i < 2 ^ (8 * n - 1))
def okB (b n:Nat):Bool:=decide (8≤n) || decide (b < 2 ^ (8 * n))
def okVk (v:Va) (k:Int) (n tt:Nat):Bool :=
  if v.k = 1 then decide (k = 1) && (decide (v = { k:=1,i:=v.i }) && okI v.i n)
  else if v.k = 2∨v.k = 3∨v.k = 4 then decide (k = v.k) && (decide (v = { k:=v.k,b:=v.b }) && okB v.b n)
  else if v.k = 5∨v.k = 6 then decide (k = v.k) && (decide (v = { k:=v.k,w:=v.w }) && fin v.w tt)
  else if v.k = 7 then decide (k = 7) && (decide (v = { k:=7,t:=v.t }) && decide (v.t.length≤16777216))
  else false
def okVa (v:Va) (t:Ty):Bool:=okVk v (kindN t.t t.u) (sizeN t.t) t.t
def chkV (v:Va) (t:Ty):Int:=if kindN t.t t.u < 0 then 2 else if v = {} then 0 else if okVa v t then 0 else 2
theorem kind_bd:∀ t u,-1≤kindN t u∧kindN t u≤7:=by
  intro t u
  unfold kindN
  repeat' split
  all_goals omega
theorem size_num {t:Nat} {u:Bool} (h:kindN t u = 1∨kindN t u = 2∨kindN t u = 3∨kindN t u = 4):sizeN t = 1∨sizeN t = 2∨sizeN t = 4∨sizeN t = 8:=by
  unfold kindN at h
  unfold sizeN
  by_cases h0:kn t = false
  · rw [if_pos h0] at h;omega
  rw [if_neg h0] at h
  by_cases h1:t = 1∨t = 2∨t = 13∨t = 3∨t = 9∨t = 8
  · rcases h1 with h1 | h1 | h1 | h1 | h1 | h1 <;> subst h1 <;> simp
  rw [if_neg h1] at h
  by_cases h2:t = 4
  · subst h2;simp
  rw [if_neg h2] at h
  by_cases h3:t = 5
  · subst h3;simp
  rw [if_neg h3] at h
  by_cases h4:t = 7∨t = 10∨t = 12
  · rw [if_pos h4] at h;omega
  rw [if_neg h4] at h
  by_cases h5:t = 11
  · rw [if_pos h5] at h;omega
  rw [if_neg h5] at h
  by_cases h6:t = 6
  · rw [if_pos h6] at h;omega
  rw [if_neg h6] at h
  omega
theorem fdiv_q {i:Int} {m:Nat} (q:Int) (hq:i.fdiv (2 ^ m) = q):((q == 0) || (q == -1)) = decide (-(2 ^ m)≤i∧i < 2 ^ m):=by
  have hp:(0:Int) < 2 ^ m:=Int.pow_pos (by decide)
  rw [Int.fdiv_eq_ediv_of_nonneg _ (Int.le_of_lt hp)] at hq
  have h1:=Int.mul_ediv_add_emod i (2 ^ m)
  have h2:=Int.emod_nonneg i (b:=2 ^ m) (by omega)
  have h3:=Int.emod_lt_of_pos i hp
  rw [hq] at h1
  generalize i % 2 ^ m = r at *
  generalize (2:Int) ^ m = B at *
  rw [Bool.eq_iff_iff]
  simp only [Bool.or_eq_true,beq_iff_eq,decide_eq_true_eq]
  constructor
  · rintro (h | h) <;> subst h <;> constructor <;> omega
  · rintro ⟨h4,h5⟩
    apply Classical.byContradiction
    intro hc
    rcases Int.lt_or_gt_of_ne (show q ≠ 0 by omega) with h6 | h6
    · have:B * q≤B * (-2):=Int.mul_le_mul_of_nonneg_left (by omega) (by omega)
      omega
    · have:B * 1≤B * q:=Int.mul_le_mul_of_nonneg_left (by omega) (by omega)
      omega
def ckFr (k:Int) (f:Bool) (n:Nat):AM.Frame:=[(2,.ptr 0 0 0 0),(3,.ptr 1 0 0 0),(5,.int .i64 k),(6,.bool f),(7,.int .i64 (n:Nat))]
noncomputable def ckO:Option Code:=(((((((Tryz.f34.body).bind cR).bind cR).bind cR).bind cR).bind cR).bind cR).bind cL
def ckP (v:Va) (t:Ty) (k:Int) (n:Nat) (fr:AM.Frame) (H:AM.Heap):Prop:=H = [some (vaO v),some (tyO t)]∧(fr = [(6,.bool (okVk v k n t.t))]∨fr = [(2,.ptr 0 0 0 0),(5,.int .i64 k),(6,.bool (okVk v k n t.t)),(103,.bool false)])
theorem rsz (t:Nat):rsizeN t = 1∨rsizeN t = 2∨rsizeN t = 4∨rsizeN t = 8:=by
  unfold rsizeN;repeat' split
  all_goals omega
theorem rsize_eq {t:Nat} (h:sizeN t ≠ 0):rsizeN t = sizeN t:=by
  unfold sizeN at h ⊢
  unfold rsizeN
  repeat' split
  all_goals first | rfl | (simp_all;done) | omega
end Go.Proofs.YtafdnpcamepbmaaGreatDoor
namespace Go.Proofs.YtafdnpcamepbmaaGreatDoor
open Go.AM
def bxO (p:AV) (c t tg:Nat) (e:Int):AM.Obj:=⟨.pc [.ro c p t,.int .i64 e],0,some 2,1,false,true,tg⟩
def wr (bad:Bool) (e:Int):Int:=if e = 0∧bad = true then 5 else e
def bts (n:Nat) (s:St):List UInt8:=if s.2 ≠ 0∨s.1.length < n then List.replicate n 0 else s.1.take n
theorem bts_len (n:Nat) (s:St):(bts n s).length = n:=by
  unfold bts
  split
  · simp
  · rename_i h
    simp;omega
theorem leV_zeros (n:Nat):leV (List.replicate n 0) = 0:=by
  induction n with
  | zero=>rfl
  | succ n ih=>rw [List.replicate_succ,leV,ih];rfl
theorem bts_fx (n:Nat) (s:St):leV (bts n s) = (fx n s).1:=by
  unfold bts fx
  by_cases h1:s.2 ≠ 0
  · rw [if_pos (.inl h1),if_pos h1,leV_zeros]
  · rw [if_neg h1]
    by_cases h2:s.1.length < n
    · rw [if_pos (.inr h2),if_pos h2,leV_zeros]
    · rw [if_neg (by simp only [ne_eq,Decidable.not_not] at h1;omega),if_neg h2]
theorem mkB {n:Nat} (hn:n≤1000000) (H:AM.Heap):makeSliceV X H 22 (.int .i64 (n:Nat)) (.int .i64 (n:Nat)) = some (.sl H.length 0 n 0,H ++ [some ⟨.pb (List.replicate n 0),0,some n,1,true,false,0⟩]):=by
  have hz:∀ n,zeroRow X 5 n = some (.pb (List.replicate n 0)):=fun n=>by simp [zeroRow,cellsAV,scalars,scalar,idsL,ids,tagsL,tags]
  have h0:(0:Int)≤n:=by omega
  have h1:(n:Int)≤9223372036854775807:=by omega
  have h2:(n:Int)≤140737488355328:=by omega
  simp [makeSliceV,hz,h0,h1,h2,rowOf]
theorem slTo {c t n:Nat} {b:List UInt8} (hc:c = 0→b = []) (hn:n≤b.length) (H:AM.Heap):sliceV X H 22 (.ro c (.pb b) t) none (some (.int .i64 (n:Nat))) = some (.ro (if c = 0 then 0 else 2) (.pb (b.take n)) t):=by
  have hnl:(n:Int)≤(b.length:Int):=by omega
  simp [sliceV,bound,plen,pesz,psub,hnl,hn]
theorem slFrom {c t n:Nat} {b:List UInt8} (hc:c = 0→b = []) (hn:n≤b.length) (H:AM.Heap):sliceV X H 22 (.ro c (.pb b) t) (some (.int .i64 (n:Nat))) none = some (.ro c (.pb (b.drop n)) t):=by
  have hcc:(if c = 0 then 0 else c) = c:=by split <;> omega
  have hnl:(n:Int)≤(b.length:Int):=by omega
  have hle:n + (b.length - n)≤b.length:=by omega
  have ht:List.take (b.length - n) (b.drop n) = b.drop n:=by rw [List.take_of_length_le (by simp)]
  simp [sliceV,bound,plen,pesz,psub,hnl,hcc,hle,ht]
section
variable (c t tg:Nat) (p:AV) (e:Int) (s:St) (n:Nat) (bad:Bool)
theorem wrong_code:∃ code,Tryz.f20.body = some code∧∃ fr,
    Run X (evT X) 20 1 code [(0,.ptr 0 0 0 0),(1,.bool bad)] [some (bxO p c t tg e)] ⟨.normal,fr,[some (bxO p c t tg (wr bad e))]⟩:=by
  refine ⟨_,rfl,?_⟩
  unfold wr
  by_cases he:e = 0
  · subst he
    cases bad
    · refine ⟨[(0,.ptr 0 0 0 0),(11,.bool false)],0,?_⟩
      simp (maxSteps:=2000000) -implicitDefEqProofs [-getElem?_pos,go_sem,eqV,plen,bxO]
    · refine ⟨[],0,?_⟩
      simp (maxSteps:=2000000) -implicitDefEqProofs [-getElem?_pos,go_sem,eqV,plen,bxO]
  · rw [if_neg (fun h=>he h.1)]
    have heb:(e == 0) = false:=by simpa using he
    refine ⟨[(0,.ptr 0 0 0 0),(11,.bool false)],0,?_⟩
    simp (maxSteps:=2000000) -implicitDefEqProofs [-getElem?_pos,go_sem,eqV,plen,bxO,heb]
theorem bytes_code (hc:c = 0→s.1 = []) (hn:n≤1000000):∃ code,Tryz.f28.body = some code∧∃ ob fr,Rw (.pb (bts n s)) 0 ob∧getF fr 4 = .sl 2 0 n 0 ∧
    Run X (evT X) 28 1 code [(0,.ptr 0 0 0 0),(1,.int .i64 (n:Nat))] [some (rdO c t tg s)] ⟨.ret,fr,[some (rdO c t tg (fx n s).2),some nilB,some ob]⟩:=by
  refine ⟨_,rfl,?_⟩
  obtain ⟨b,e⟩:=s
  unfold bts fx
  simp only
  have n0:¬ (n:Int) < 0:=by omega
  by_cases he:e = 0
  · subst he
    by_cases hl:b.length < n
    · have hlI:(b.length:Int) < (n:Int):=by omega
      rw [if_pos (.inr hl),if_neg (by simp),if_pos hl]
      refine ⟨⟨.pb (List.replicate n 0),0,some n,1,true,false,0⟩,[(4,.sl 2 0 n 0)],⟨rfl,rfl,rfl,rfl,rfl⟩,rfl,0,?_⟩
      simp (maxSteps:=2000000) -implicitDefEqProofs [-getElem?_pos,go_sem,eqV,plen,rdO,hlI,assignV,emB,n0,mkB hn]
    · have hlI:¬ (b.length:Int) < (n:Int):=by omega
      rw [if_neg (by simp;omega),if_neg (by simp),if_neg hl]
      have hb0:=fun H=>bs0 H
      have hA:=app_lit (H:=[some (rdO c t tg (b,0)),some nilB]) (m:=b.take n) (src:=.ro (if c = 0 then 0 else 2) (.pb (b.take n)) t) (srcB (.inl rfl)) (by simp;omega)
      have hs1:=fun H=>slTo (t:=t) hc (show n≤b.length by omega) H
      have hs2:=fun H=>slFrom (t:=t) hc (show n≤b.length by omega) H
      have htl:(b.take n).length = n:=by simp;omega
      rw [htl] at hA
      refine ⟨⟨.pb (b.take n),0,.none,1,true,false,0⟩,[(4,.sl 2 0 n 0)],⟨rfl,rfl,rfl,rfl,rfl⟩,rfl,0,?_⟩
      simp only [rdO] at hA
      simp (maxSteps:=2000000) -implicitDefEqProofs [-getElem?_pos,go_sem,eqV,plen,rdO,hlI,assignV,emB,n0,hb0,hA,hs1,hs2]
  · have heb:(e == 0) = false:=by simpa using he
    have heb2:(e != 0) = true:=by simpa using he
    rw [if_pos (.inl he),if_pos he]
    refine ⟨⟨.pb (List.replicate n 0),0,some n,1,true,false,0⟩,[(4,.sl 2 0 n 0)],⟨rfl,rfl,rfl,rfl,rfl⟩,rfl,0,?_⟩
    simp (maxSteps:=2000000) -implicitDefEqProofs [-getElem?_pos,go_sem,eqV,plen,rdO,he,heb,heb2,assignV,emB,n0,mkB hn]
end
theorem wrong_ev {H:AM.Heap} {o c t tg k:Nat} {p:AV} {l:List UInt8} {e:Int} {bad:Bool} (ho:H[o]? = some (some (bxO p c t tg e))) (hp:PB p l) (hj:joinTags (tagsOb (bxO p c t tg e)) = some k) :
    evT X 20 [.ptr o 0 0 0,.bool bad] H = some (.tup [],upd H o (some (bxO p c k k (wr bad e)))):=by
  obtain ⟨code,hcode,fr,hr⟩:=wrong_code c 3 3 p e bad
  have hpi:=hp.ids
  have:=Ev1.box (C:=X) (f:=20) (H:=H) (o:=o) (g:=0) (ob:=bxO p c t tg e) (ob1:=bxO p c 3 3 (wr bad e)) (xs:=[.bool bad]) (ys:=[.bool bad]) (n:=3) (t:=k) (rest:=[])
    (l:=[]) (evT_below X) Tryz.func20 hcode rfl ho rfl (by simp [bxO,ids,idsL,hpi]) (args_flat rfl rfl (args_nil 2)) rfl rfl rfl (by simp [gtag]) hj hr (.inl rfl) rfl rfl rfl (by simp [bxO,ids,idsL,hpi]) rfl
    (by intro k hk;right;simpa [resultV,noTups,tags,tagsOb,bxO,tagsL] using hk) (.inr rfl)
  exact evT_eq (by simpa [bxO,ren,renL,bk,resultV,noTups] using this)
theorem bytes_ev {H:AM.Heap} {o c t tg n:Nat} {N:Int} {s:St} (hN:N = (n:Nat)) (ho:H[o]? = some (some (rdO c t tg s))) (hj:joinTags (tagsOb (rdO c t tg s)) = some t) (hc:c = 0→s.1 = []) (hn:n≤1000000) :
    ∃ ob,Rw (.pb (bts n s)) 0 ob∧evT X 28 [.ptr o 0 0 0,.int .i64 N] H = some (.sl H.length 0 n 0,upd H o (some (rdO c t t (fx n s).2)) ++ [some ob]):=by
  subst hN
  obtain ⟨code,hcode,ob,fr,hw,h4,hr⟩:=bytes_code c 3 3 s n hc hn
  have:=Ev1.boxNew (C:=X) (f:=28) (H:=H) (o:=o) (g:=0) (ob:=rdO c t tg s) (ob1:=rdO c 3 3 (fx n s).2) (xs:=[.int .i64 (n:Nat)]) (ys:=[.int .i64 (n:Nat)]) (n:=3) (t:=t) (rest:=[some nilB,some ob]) (o1:=2) (g1:=0) (ob2:=ob)
    (l:=[.sl 2 0 n 0]) (evT_below X) Tryz.func28 hcode rfl ho rfl rfl (args_flat rfl rfl (args_nil 2)) rfl rfl rfl (by simp [gtag]) hj hr (.inr rfl) (by show some [getF fr 4] = _;rw [h4]) rfl rfl rfl rfl (by simp [live,hw.g]) (by omega) hw.ids (by rw [hw.p];rfl) hw.tg
    (by intro k hk;simp [resultV,tags,tagsOb,rdO,tagsL] at hk;omega) (.inr rfl)
  refine ⟨AM.fresh ob,⟨hw.p,rfl,hw.row,hw.ids,rfl⟩,evT_eq ?_⟩
  simpa [rdO,ren,renL,bk,resultV] using this
theorem rrf_ev {H:AM.Heap} {a:AV} {b:List UInt8} {n:Nat} (h:Byt H a b) (hb:b.length≤90000000) :
    evT X 76 [a,.int .i64 (n:Nat)] H = some (.tup [.int .u64 (rfR b n).1,.int .i64 (rfR b n).2],H):=by
  obtain ⟨c,p,xl,hp,hc,hx'⟩:=args_byt (C:=X) (f:=76) (i:=0) rfl h (args_flat (i:=1) (a:=.int .i64 (n:Nat)) rfl rfl (args_nil 2))
  obtain ⟨code,hcode,hr⟩:=rreadFixed_code (evT X) c b n (by omega)
  refine evT_eq (Ev1.toldP (l:=[.int .u64 (rfR b n).1,.int .i64 (rfR b n).2]) (evT_below X) Tryz.func76 hcode hx' (by simp [idsL,ids,hp.ids]) (by simp [gtag]) rfl rfl rfl ?_)
  rw [par76,coB hp]
  exact ⟨_,⟨rfl,rfl⟩,hr⟩
theorem jt (c t:Nat) (s:St):joinTags (tagsOb (rdO c t t s)) = some t:=by
  simp [tagsOb,rdO,tags,tagsL,joinTags,joinTag];omega
section
variable (c t:Nat) (p:AV) (e:Int) (s:St) (n:Nat)
theorem byte_code (hc:c = 0→s.1 = []):∃ code,Tryz.f18.body = some code∧∃ ob,
    Run X (evT X) 18 1 code [(0,.ptr 0 0 0 0)] [some (rdO c t t s)] ⟨.ret,[(2,.int .u8 ((fx 1 s).1:Nat))],[some (rdO c t t (fx 1 s).2),some ob]⟩:=by
  refine ⟨_,rfl,?_⟩
  obtain ⟨ob,hw,hB⟩:=bytes_ev (H:=[some (rdO c t t s)]) (o:=0) (n:=1) (N:=1) rfl rfl (jt c t s) hc (by omega)
  have h1:=bts_fx 1 s
  have h2:=bts_len 1 s
  generalize bts 1 s = l at *
  match l,h2 with
  | [y],_ =>
    have hy:y.toNat = (fx 1 s).1:=by rw [← h1];simp [leV]
    rw [← hy]
    have hg:=hw.g
    have hp:=hw.p
    have hi:=hw.ids
    have ht:=hw.tg
    refine ⟨ob,0,?_⟩
    simp only [rdO] at hB
    simp (maxSteps:=2000000) -implicitDefEqProofs [-getElem?_pos,go_sem,eqV,plen,rdO,hB,hg,hp,hi,ht]
theorem fixedF_code (hc:c = 0→s.1 = []) (h1:1≤n) (h8:n≤8):∃ code,Tryz.f64.body = some code∧∃ ob,
    Run X (evT X) 64 1 code [(0,.ptr 0 0 0 0),(1,.int .i64 (n:Nat))] [some (rdO c t t s)] ⟨.ret,[(4,.int .u64 ((fx n s).1:Nat))],[some (rdO c t t (fx n s).2),some ob]⟩:=by
  refine ⟨_,rfl,?_⟩
  obtain ⟨ob,hw,hB⟩:=bytes_ev (H:=[some (rdO c t t s)]) (o:=0) (n:=n) (N:=n) rfl rfl (jt c t s) hc (by omega)
  have q1:=bts_fx n s
  have q2:=bts_len n s
  have hR:=rrf_ev (H:=[some (rdO c t t (fx n s).2),some ob]) (a:=.sl 1 0 n 0) (b:=bts n s) (n:=n) (by have:=Byt.whole (H:=[some (rdO c t t (fx n s).2),some ob]) (o:=1) rfl hw;rwa [q2] at this) (by omega)
  unfold rfR at hR
  rw [if_neg (by omega),if_neg (by omega),Int.toNat_natCast,List.take_of_length_le (by omega),q1] at hR
  refine ⟨ob,0,?_⟩
  simp only [rdO] at hB hR
  simp (maxSteps:=2000000) -implicitDefEqProofs [-getElem?_pos,go_sem,eqV,plen,rdO,hB,hR]
theorem doneF_code {l:List UInt8} (hp:PB p l):∃ code,Tryz.f21.body = some code ∧
    Run X (evT X) 21 1 code [(0,.ptr 0 0 0 0)] [some (bxO p c t t e)] ⟨.ret,[(2,.int .i64 (wr (decide (0 < l.length)) e))],[some (bxO p c t t (wr (decide (0 < l.length)) e))]⟩:=by
  refine ⟨_,rfl,?_⟩
  have hW:=fun bad=>wrong_ev (H:=[some (bxO p c t t e)]) (o:=0) (k:=t) (bad:=bad) rfl hp (by rcases hp with rfl | ⟨rfl,_⟩ <;> (simp [tagsOb,bxO,tags,tagsL,joinTags,joinTag];omega))
  have hl:=hp.plen
  refine ⟨0,?_⟩
  simp only [bxO] at hW
  by_cases h:0 < l.length
  · have hi:(0:Int) < (l.length:Int):=by omega
    simp (maxSteps:=2000000) -implicitDefEqProofs [-getElem?_pos,go_sem,eqV,plen,bxO,hW,-plen,hl,h,hi]
  · have hi:¬ (0:Int) < (l.length:Int):=by omega
    simp (maxSteps:=2000000) -implicitDefEqProofs [-getElem?_pos,go_sem,eqV,plen,bxO,hW,-plen,hl,h,hi]
end
theorem byteF_ev {H:AM.Heap} {o c t tg:Nat} {s:St} (ho:H[o]? = some (some (rdO c t tg s))) (hj:joinTags (tagsOb (rdO c t tg s)) = some t) (hc:c = 0→s.1 = []) :
    evT X 18 [.ptr o 0 0 0] H = some (.int .u8 ((fx 1 s).1:Nat),upd H o (some (rdO c t t (fx 1 s).2))):=by
  obtain ⟨code,hcode,ob,hr⟩:=byte_code c 2 s hc
  have:=Ev1.box (C:=X) (f:=18) (H:=H) (o:=o) (g:=0) (ob:=rdO c t tg s) (ob1:=rdO c 2 2 (fx 1 s).2) (xs:=[]) (ys:=[]) (n:=2) (t:=t) (rest:=[some ob])
    (l:=[.int .u8 ((fx 1 s).1:Nat)]) (evT_below X) Tryz.func18 hcode rfl ho rfl rfl (args_nil 1) rfl rfl rfl (by simp [gtag]) hj hr (.inr rfl) rfl rfl rfl rfl rfl
    (by intro k hk;right;simpa [resultV,tags,tagsOb,rdO,tagsL] using hk) (.inr rfl)
  exact evT_eq (by simpa [rdO,ren,renL,bk,resultV] using this)
theorem fixedF_ev {H:AM.Heap} {o c t tg n:Nat} {N:Int} {s:St} (hN:N = (n:Nat)) (ho:H[o]? = some (some (rdO c t tg s))) (hj:joinTags (tagsOb (rdO c t tg s)) = some t) (hc:c = 0→s.1 = []) (h1:1≤n) (h8:n≤8) :
    evT X 64 [.ptr o 0 0 0,.int .i64 N] H = some (.int .u64 ((fx n s).1:Nat),upd H o (some (rdO c t t (fx n s).2))):=by
  subst hN
  obtain ⟨code,hcode,ob,hr⟩:=fixedF_code c 3 s n hc h1 h8
  have:=Ev1.box (C:=X) (f:=64) (H:=H) (o:=o) (g:=0) (ob:=rdO c t tg s) (ob1:=rdO c 3 3 (fx n s).2) (xs:=[.int .i64 (n:Nat)]) (ys:=[.int .i64 (n:Nat)]) (n:=3) (t:=t) (rest:=[some ob])
    (l:=[.int .u64 ((fx n s).1:Nat)]) (evT_below X) Tryz.func64 hcode rfl ho rfl rfl (args_flat rfl rfl (args_nil 2)) rfl rfl rfl (by simp [gtag]) hj hr (.inr rfl) rfl rfl rfl rfl rfl
    (by intro k hk;right;simpa [resultV,tags,tagsOb,rdO,tagsL] using hk) (.inr rfl)
  exact evT_eq (by simpa [rdO,ren,renL,bk,resultV] using this)
theorem doneF_ev {H:AM.Heap} {o c t tg k:Nat} {p:AV} {l:List UInt8} {e:Int} (ho:H[o]? = some (some (bxO p c t tg e))) (hp:PB p l) (hj:joinTags (tagsOb (bxO p c t tg e)) = some k) :
    evT X 21 [.ptr o 0 0 0] H = some (.int .i64 (wr (decide (0 < l.length)) e),upd H o (some (bxO p c k k (wr (decide (0 < l.length)) e)))):=by
  obtain ⟨code,hcode,hr⟩:=doneF_code c 2 p e hp
  have hpi:=hp.ids
  generalize wr (decide (0 < l.length)) e = e2 at *
  have:=Ev1.box (C:=X) (f:=21) (H:=H) (o:=o) (g:=0) (ob:=bxO p c t tg e) (ob1:=bxO p c 2 2 e2) (xs:=[]) (ys:=[]) (n:=2) (t:=k) (rest:=[])
    (l:=[.int .i64 e2]) (evT_below X) Tryz.func21 hcode rfl ho rfl (by simp [bxO,ids,idsL,hpi]) (args_nil 1) rfl rfl rfl (by simp [gtag]) hj hr (.inr rfl) rfl rfl rfl (by simp [bxO,ids,idsL,hpi]) rfl
    (by intro k hk;right;simpa [resultV,noTups,tags,tagsOb,bxO,tagsL] using hk) (.inr rfl)
  exact evT_eq (by simpa [bxO,ren,renL,bk,resultV,noTups] using this)
end Go.Proofs.YtafdnpcamepbmaaGreatDoor
namespace Go.Proofs.YtafdnpcamepbmaaGreatDoor
open Go.AM
structure Pm where
  t:Ty
  lg:Bool
  v:Va
def Pm.pay (p:Pm):AV:=.pc [.int .u8 (p.t.t:Nat),.bool p.t.u,.bool p.lg,.int .i64 p.v.k,.int .i64 p.v.i,.int .u64 (p.v.b:Nat),.str p.v.t,.bool p.v.w.neg,.int .i64 p.v.w.y,.int .i64 p.v.w.mo,.int .i64 p.v.w.d,.int .i64 p.v.w.h,.int .i64 p.v.w.mi,.int .i64 p.v.w.s,.int .i64 p.v.w.us]
def Pm.ok (p:Pm):Prop:=p.t.t < 256∧p.v.b < 18446744073709551616∧-9223372036854775808≤p.v.i∧p.v.i < 9223372036854775808
def Pm.bad (p:Pm):Bool:=decide (chkV p.v p.t ≠ 0) || (p.lg && decide (p.v.k ≠ 0))
theorem at_cat {α:Type} {H r:List α} {j:Nat} {y:α} (h:H[j]? = some y):(H ++ r)[j]? = some y:=by
  rw [List.getElem?_append_left]
  · exact h
  · exact (List.getElem?_eq_some_iff.1 h).1
theorem at_lt {α:Type} {H:List α} {j:Nat} {y:α} (h:H[j]? = some y):j < H.length:=(List.getElem?_eq_some_iff.1 h).1
theorem at_set {α:Type} {H:List α} {j:Nat} {y x:α} (h:H[j]? = some y):(H.set j x)[j]? = some x:=by
  rw [List.getElem?_set_self (at_lt h)]
theorem at_ne {α:Type} {H:List α} {j k:Nat} {y x:α} (h:H[j]? = some y) (hne:k ≠ j):(H.set k x)[j]? = some y:=by
  rw [List.getElem?_set_ne hne];exact h
theorem take_cat {α β:Type} {l:List α} {i:Nat} {p:α} (f:α→List β) (h:l[i]? = some p):(l.take (i + 1)).flatMap f = (l.take i).flatMap f ++ f p:=by
  rw [List.take_add_one,h];simp
end Go.Proofs.YtafdnpcamepbmaaGreatDoor
namespace Go.Proofs.YtafdnpcamepbmaaGreatDoor
open Go.AM
def nb (c:List UInt8) (i k:Nat):Nat:=leV ((c.drop i).take k)
theorem nb_lt (c:List UInt8) (i k:Nat):nb c i k < 256 ^ k:=by
  unfold nb
  have h:=leV_lt ((c.drop i).take k)
  have:((c.drop i).take k).length≤k:=by simp;omega
  exact Nat.lt_of_lt_of_le h (Nat.pow_le_pow_right (by omega) this)
section
variable (c:List UInt8) (i k:Nat) (b1 b2:AM.Obj)
theorem number_code (hc:c.length = 13) (hi:i + k≤13) (hk:1≤k) (hk4:k≤4) (hp1:b1.p = .pc [.sl 1 0 13 0]) (hi1:b1.ids = true) (hg1:b1.g = 0) (hp2:b2.p = .pb c) (hi2:b2.ids = false) (hg2:b2.g = 0):∃ code,Tryz.f61.body = some code ∧
    Run X (evT X) 61 2 code [(0,.int .i64 (i:Nat)),(1,.int .i64 (k:Nat)),(2,.ptr 0 0 0 0)] [some b1,some b2] ⟨.ret,[(5,.int .i64 (nb c i k:Nat))],[some b1,some b2]⟩:=by
  refine ⟨_,rfl,?_⟩
  have hB:Byt [some b1,some b2] (.sl 1 i (13 - i) 0) (c.drop i):=Byt.part (H:=[some b1,some b2]) (o:=1) rfl hg2 hp2 hi2 (by rw [List.take_of_length_le (by simp;omega)]) (by omega)
  have hR:=rf_ev (n:=k) hB (by simp;omega)
  have hlt:=nb_lt c i k
  have h4:256 ^ k≤256 ^ 4:=Nat.pow_le_pow_right (by omega) hk4
  have hrf:rfR (c.drop i) (k:Nat) = (((nb c i k:Nat):Int),0):=by
    unfold rfR
    rw [if_neg (by omega),if_neg (by simp;omega)]
    rfl
  rw [hrf] at hR
  have w1:IntKind.i64.wrap ((nb c i k:Nat):Int) = ((nb c i k:Nat):Int):=wrap_i64 (by omega) (by omega)
  have hsl:sliceV X [some b1,some b2] 22 (.sl 1 0 13 0) (some (.int .i64 (i:Nat))) none = some (.sl 1 i (13 - i) 0):=by
    have hiI:(i:Int)≤13:=by omega
    simp [sliceV,bound,live,hg2,hp2,pesz,hiI]
  generalize nb c i k = z at *
  generalize 13 - i = n at *
  refine ⟨0,?_⟩
  simp (maxSteps:=2000000) -implicitDefEqProofs [-getElem?_pos,go_sem,eqV,plen,hp1,hi1,hg1,hsl,hR,w1]
end
theorem number_ev {H:AM.Heap} {o1 o2 i k g2:Nat} {I K:Int} {b1 b2:AM.Obj} {c:List UInt8} (hI:I = (i:Nat)) (hK:K = (k:Nat)) (hc:c.length = 13) (hi:i + k≤13) (hk:1≤k) (hk4:k≤4)
    (h1:H[o1]? = some (some b1)) (hp1:b1.p = .pc [.sl o2 0 13 g2]) (hi1:b1.ids = true) (hg1:b1.g = 0) (ht1:b1.tg = 0) (h2:H[o2]? = some (some b2)) (hp2:b2.p = .pb c) (hi2:b2.ids = false) (hg2:b2.g = g2) (ht2:b2.tg = 0) (hne:o1 ≠ o2) :
    evT X 61 [.int .i64 I,.int .i64 K,.ptr o1 0 0 0] H = some (.int .i64 (nb c i k:Nat),H):=by
  subst hI hK
  obtain ⟨code,hcode,hr⟩:=number_code c i k { b1 with p:=.pc [.sl 1 0 13 0],g:=0,tg:=4 } { b2 with g:=0,tg:=4 } hc hi hk hk4 rfl hi1 rfl hp2 hi2 rfl
  exact evT_eq (Ev1.fn2 (C:=X) (f:=61) (H:=H) (xs:=[.int .i64 (i:Nat),.int .i64 (k:Nat)]) (n:=4) (l:=[.int .i64 (nb c i k:Nat)]) (rest:=[]) (evT_below X) Tryz.func61 hcode (fun i=>by rfl) h1 hg1 (by rw [hg2];exact hp1) hi1 ht1 h2 hi2 ht2 hp2 hne rfl rfl (by simp [gtag])
    (by rw [par61];simpa [coerce,numbered] using hr) (.inr rfl) rfl rfl rfl rfl)
end Go.Proofs.YtafdnpcamepbmaaGreatDoor
namespace Go.Proofs.YtafdnpcamepbmaaGreatDoor
open Go.AM
def szL (t:Nat):List Int:=if t = 11 then [0,8,12] else [0,4,7,11]
def knW (n t:Nat):Bool:=(szL t).any fun x=>(n:Int) == x
def cW (b:List UInt8):List UInt8:=let n:=(b.headD 0).toNat;((b.drop 1).take n) ++ List.replicate (13 - n) 0
def spW (c:List UInt8):Wh:={ neg:=(c.headD 0).toNat == 1,y:=0,mo:=0,d:=(nb c 1 4:Nat),h:=(nb c 5 1:Nat),mi:=(nb c 6 1:Nat),s:=(nb c 7 1:Nat),us:=(nb c 8 4:Nat) }
def moW (c:List UInt8):Wh:={ neg:=false,y:=(nb c 0 2:Nat),mo:=(nb c 2 1:Nat),d:=(nb c 3 1:Nat),h:=(nb c 4 1:Nat),mi:=(nb c 5 1:Nat),s:=(nb c 6 1:Nat),us:=(nb c 7 4:Nat) }
def rdW (b:List UInt8) (t:Nat):Wh × Nat × Int :=
  if b.length = 0 then ({},0,4) else if knW (b.headD 0).toNat t = false then ({},0,5) else if b.length < 1 + (b.headD 0).toNat then ({},0,4) else
  if t = 11 then (if 1 < ((cW b).headD 0).toNat then ({},0,5) else if fin (spW (cW b)) t = false then ({},0,5) else (spW (cW b),1 + (b.headD 0).toNat,0))
  else if fin (moW (cW b)) t = false then ({},0,5) else (moW (cW b),1 + (b.headD 0).toNat,0)
theorem bdSp (a:Bool) (x3 x4 x5 x6 x7:Int):buildV X 39 [(0,.bool a),(3,.int .i64 x3),(4,.int .i64 x4),(5,.int .i64 x5),(6,.int .i64 x6),(7,.int .i64 x7)] = some (.agg (.pc [.bool a,.int .i64 0,.int .i64 0,.int .i64 x3,.int .i64 x4,.int .i64 x5,.int .i64 x6,.int .i64 x7])):=by kernel_rfl
theorem bdMo (x1 x2 x3 x4 x5 x6 x7:Int):buildV X 39 [(1,.int .i64 x1),(2,.int .i64 x2),(3,.int .i64 x3),(4,.int .i64 x4),(5,.int .i64 x5),(6,.int .i64 x6),(7,.int .i64 x7)] = some (.agg (.pc [.bool false,.int .i64 x1,.int .i64 x2,.int .i64 x3,.int .i64 x4,.int .i64 x5,.int .i64 x6,.int .i64 x7])):=by kernel_rfl
def svO (o n g:Nat):AM.Obj:=⟨.pc [.sl o 0 n g],0,some 1,1,false,true,0⟩
section
variable (c:Nat) (b:List UInt8) (t:Nat)
def rwFr (n:Nat) (L:List Int) (kd:Bool) (i:Nat):AM.Frame:=[(0,.ro c (.pb b) 1),(1,.int .u8 (t:Nat)),(4,.ptr 0 0 0 0),(7,.ptr 1 0 0 0),(8,.int .i64 (n:Nat)),(10,.bool kd),(27,.ro 1 (.pi .i64 L) 0),(28,.int .i64 (L.length:Nat)),(29,.int .i64 (i:Nat))]
theorem rw_loop (n:Nat) (L:List Int) (hL:L.length≤100):∃ code,((Tryz.f42.body).bind (codeAt [1,1,1,1,1,1,1,0,1])) = some code ∧
    Tells (Goes fun fr H=>H = [some (whO {}),some (whO {})]∧fr = rwFr c b t n L (L.any fun x=>(n:Int) == x) L.length ++ [(30,.bool false)]) X (evT X) 42 0 code (rwFr c b t n L false 0) [some (whO {}),some (whO {})]:=by
  refine ⟨_,rfl,?_⟩
  apply Tells.block
  refine Tells.loopP (fun k fr H=>∃ i,k = L.length - i∧i≤L.length∧H = [some (whO {}),some (whO {})]∧fr = rwFr c b t n L ((L.take i).any fun x=>(n:Int) == x) i) ?_ (k:=L.length) ⟨0,rfl,by omega,rfl,rfl⟩
  rintro k fr H ⟨i,rfl,hi,rfl,rfl⟩
  by_cases hin:i = L.length
  · subst hin
    rw [List.take_length]
    refine Tells.of (o:=⟨.exit 0,rwFr c b t n L (L.any fun x=>(n:Int) == x) L.length ++ [(30,.bool false)],_⟩) ⟨0,?_⟩ (.inr ⟨by simp,rfl,rfl,rfl⟩)
    generalize (L.any fun x=>(n:Int) == x) = a at *
    simp (maxSteps:=2000000) -implicitDefEqProofs [-getElem?_pos,go_sem,eqV,plen,rwFr]
  have hlt:i < L.length:=by omega
  have hiI:(i:Int) < (L.length:Int):=by omega
  obtain ⟨x,hx⟩:∃ x,L[i]? = some x:=⟨_,List.getElem?_eq_getElem hlt⟩
  have hsn:((L.take (i + 1)).any fun x=>(n:Int) == x) = (((L.take i).any fun x=>(n:Int) == x) || ((n:Int) == x)):=by
    rw [List.take_add_one,hx];simp
  have w1:IntKind.i64.wrap ((i:Int) + 1) = ((i + 1:Nat):Int):=by rw [wrap_i64 (by omega) (by omega)];omega
  refine Tells.of (o:=⟨.normal,rwFr c b t n L ((L.take (i + 1)).any fun x=>(n:Int) == x) (i + 1),_⟩) ⟨0,?_⟩ (.inl ⟨rfl,L.length - (i + 1),by omega,i + 1,rfl,by omega,rfl,rfl⟩)
  rw [hsn]
  generalize ((L.take i).any fun x=>(n:Int) == x) = a at *
  cases a with
  | true=>simp (maxSteps:=2000000) -implicitDefEqProofs [-getElem?_pos,go_sem,eqV,plen,rwFr,hiI,hlt,hx,w1]
  | false =>
    generalize hnx:((n:Int) == x) = e at *
    simp (maxSteps:=2000000) -implicitDefEqProofs [-getElem?_pos,go_sem,eqV,plen,rwFr,hiI,hlt,hx,w1,hnx]
end
theorem slMid1 {c t n:Nat} {b:List UInt8} (hc:c = 0→b = []) (hn:1 + n≤b.length) (H:AM.Heap):sliceV X H 22 (.ro c (.pb b) t) (some (.int .i64 1)) (some (.int .i64 ((1 + n:Nat):Int))) = some (.ro (if c = 0 then 0 else 2) (.pb ((b.drop 1).take n)) t) :=
  slMid (m:=1) hn H
theorem cpN {H:AM.Heap} {ob:AM.Obj} {m l:List UInt8} {c t:Nat} (h2:H[2]? = some (some ob)) (hg:ob.g = 0) (hp:ob.p = .pb m) (hi:ob.ids = false) (hm:m.length = 13) (hl:l.length≤13) :
    copyV X H 22 (.sl 2 0 13 0) (.ro c (.pb l) t) = some (.int .i64 l.length,upd H 2 (some { ob with p:=.pb (l ++ m.drop l.length) })):=by
  have hok:okT X 5 = true:=by kernel_rfl
  simp [copyV,live,h2,hg,hp,hi,hm,hl,hok]
end Go.Proofs.YtafdnpcamepbmaaGreatDoor
namespace Go.Proofs.YtafdnpcamepbmaaGreatDoor
open Go.AM
theorem cW_len {b:List UInt8} (h:(b.headD 0).toNat≤12) (hb:1 + (b.headD 0).toNat≤b.length):(cW b).length = 13:=by
  unfold cW
  simp only [List.length_append,List.length_take,List.length_drop,List.length_replicate]
  omega
theorem knW_le {n t:Nat} (h:knW n t = true):n≤12:=by
  unfold knW szL at h
  split at h
  · simp at h;omega
  · simp at h;omega
theorem rw_dy (n:Nat) (y:UInt8) (ys:List UInt8) (ng:Bool) (z1 z5 z6 z7 z8:Int) (hye:((y.toNat:Int) == 1) = ng)
    (n1:∀ H0 H1:Option AM.Obj,evT X 61 [.int .i64 1,.int .i64 4,.ptr 3 0 0 0] [H0,H1,some ⟨.pb (y :: ys),0,some 13,1,true,false,0⟩,some (svO 2 13 0)] = some (.int .i64 z1,[H0,H1,some ⟨.pb (y :: ys),0,some 13,1,true,false,0⟩,some (svO 2 13 0)]))
    (n5:∀ H0 H1:Option AM.Obj,evT X 61 [.int .i64 5,.int .i64 1,.ptr 3 0 0 0] [H0,H1,some ⟨.pb (y :: ys),0,some 13,1,true,false,0⟩,some (svO 2 13 0)] = some (.int .i64 z5,[H0,H1,some ⟨.pb (y :: ys),0,some 13,1,true,false,0⟩,some (svO 2 13 0)]))
    (n6:∀ H0 H1:Option AM.Obj,evT X 61 [.int .i64 6,.int .i64 1,.ptr 3 0 0 0] [H0,H1,some ⟨.pb (y :: ys),0,some 13,1,true,false,0⟩,some (svO 2 13 0)] = some (.int .i64 z6,[H0,H1,some ⟨.pb (y :: ys),0,some 13,1,true,false,0⟩,some (svO 2 13 0)]))
    (n7:∀ H0 H1:Option AM.Obj,evT X 61 [.int .i64 7,.int .i64 1,.ptr 3 0 0 0] [H0,H1,some ⟨.pb (y :: ys),0,some 13,1,true,false,0⟩,some (svO 2 13 0)] = some (.int .i64 z7,[H0,H1,some ⟨.pb (y :: ys),0,some 13,1,true,false,0⟩,some (svO 2 13 0)]))
    (n8:∀ H0 H1:Option AM.Obj,evT X 61 [.int .i64 8,.int .i64 4,.ptr 3 0 0 0] [H0,H1,some ⟨.pb (y :: ys),0,some 13,1,true,false,0⟩,some (svO 2 13 0)] = some (.int .i64 z8,[H0,H1,some ⟨.pb (y :: ys),0,some 13,1,true,false,0⟩,some (svO 2 13 0)])) :
    ∃ code,((Tryz.f42.body).bind (codeAt [1,1,1,1,1,1,1,1,1,1,1,1,1,0,1,0,1])) = some code∧Run X (evT X) 42 0 code [(1,.int .u8 11),(4,.ptr 0 0 0 0),(7,.ptr 1 0 0 0),(8,.int .i64 (n:Nat)),(13,.ptr 3 0 0 0),(14,.fn 61 [.ptr 3 0 0 0]),(62,.bool false)] [some (whO {}),some (whO {}),some ⟨.pb (y :: ys),0,some 13,1,true,false,0⟩,some (svO 2 13 0)]
      ⟨.normal,[(1,.int .u8 11),(4,.ptr 0 0 0 0),(7,.ptr 1 0 0 0),(8,.int .i64 (n:Nat))],[some (whO {}),some (whO { neg:=ng,d:=z1,h:=z5,mi:=z6,s:=z7,us:=z8 }),some ⟨.pb (y :: ys),0,some 13,1,true,false,0⟩,some (svO 2 13 0)]⟩:=by
  refine ⟨_,rfl,?_⟩
  have hbd:=fun a x3 x4 x5 x6 x7=>bdSp a x3 x4 x5 x6 x7
  have hre:∀ H0 H1:Option AM.Obj,reach [H0,H1,some ⟨.pb (y :: ys),0,some 13,1,true,false,0⟩,some (svO 2 13 0)] reachFuel [3] [] = [3,2]:=fun H0 H1=>reach_fn2 (o1:=3) (o2:=2) rfl rfl rfl rfl rfl (by decide)
  simp only [svO] at hre n1 n5 n6 n7 n8
  apply Run.dy (by simp) keep42_24 (by simp)
  · (conv=>lhs;simp (maxSteps:=2000000) -implicitDefEqProofs [-getElem?_pos,go_sem,eqV,plen,runD,out1,markOf,freeO,quietO,pushes,isAssign,calledV,touched,mentioned,opVals,touchCall,mentionCall,idsAt,Op.operands,ids,idsL,lendArgs,lendV,lend1,lendL,eqH_self,svO,whO,Wh.pay,hye,n1,n5,n6,n7,n8,hbd,hre,flatCells,splice,scalars,upd])
    rfl
  · kernel_rfl
  · rfl
section
variable (c:Nat) (b:List UInt8) (t:Nat)
theorem rw_end (hc:c = 0→b = []) (ht:t < 256) (hb0:b.length ≠ 0) (hk:knW (b.headD 0).toNat t = true) (hb:¬ b.length < 1 + (b.headD 0).toNat) (hbm:b.length≤90000000) :
    ∃ code,((Tryz.f42.body).bind (codeAt [1,1,1,1,1,1,1,1,1,1])) = some code ∧
    Tells (Rets fun fr H=>getF fr 4 = .ptr 0 0 0 0∧H[0]? = some (some (whO (rdW b t).1))∧getF fr 5 = .int .i64 ((rdW b t).2.1:Nat)∧getF fr 6 = .int .i64 (rdW b t).2.2) X (evT X) 42 0 code
      [(0,.ro c (.pb b) 1),(1,.int .u8 (t:Nat)),(4,.ptr 0 0 0 0),(7,.ptr 1 0 0 0),(8,.int .i64 ((b.headD 0).toNat:Nat)),(47,.bool false)] [some (whO {}),some (whO {})]:=by
  refine ⟨_,rfl,?_⟩
  have hr:rdW b t = if t = 11 then (if 1 < ((cW b).headD 0).toNat then ({},0,5) else if fin (spW (cW b)) t = false then ({},0,5) else (spW (cW b),1 + (b.headD 0).toNat,0))
      else if fin (moW (cW b)) t = false then ({},0,5) else (moW (cW b),1 + (b.headD 0).toNat,0):=by
    unfold rdW
    rw [if_neg hb0,if_neg (by rw [hk];simp),if_neg hb]
  generalize rdW b t = R at *
  have hn12:=knW_le hk
  have hcl:=cW_len hn12 (by omega)
  have hcw:cW b = ((b.drop 1).take (b.headD 0).toNat) ++ List.replicate (13 - (b.headD 0).toNat) 0:=rfl
  have hM:makeSliceV X [some (whO {}),some (whO {})] 22 (.int .i64 13) (.int .i64 13) = some (.sl 2 0 13 0,[some (whO {}),some (whO {})] ++ [some ⟨.pb (List.replicate 13 0),0,some 13,1,true,false,0⟩]):=mkB (n:=13) (by omega) _
  have hzl:(List.replicate 13 (0:UInt8)).length = 13:=List.length_replicate
  have hzd:∀ k,(List.replicate 13 (0:UInt8)).drop k = List.replicate (13 - k) 0:=fun k=>List.drop_replicate
  generalize List.replicate 13 (0:UInt8) = zr at *
  have hsl:=fun H=>slMid1 (t:=1) hc (n:=(b.headD 0).toNat) (by omega) H
  have htl:((b.drop 1).take (b.headD 0).toNat).length = (b.headD 0).toNat:=by rw [List.length_take,List.length_drop];omega
  generalize (b.drop 1).take (b.headD 0).toNat = l at *
  generalize hn:(b.headD 0).toNat = n at *
  generalize hcb:cW b = cb at *
  apply Tells.seq (fr':=[(0,.ro c (.pb b) 1),(1,.int .u8 (t:Nat)),(4,.ptr 0 0 0 0),(7,.ptr 1 0 0 0),(8,.int .i64 (n:Nat)),(13,.ptr 3 0 0 0)]) (H':=[some (whO {}),some (whO {}),some ⟨.pb zr,0,some 13,1,true,false,0⟩,some (svO 2 13 0)])
  · simp only [whO,Wh.pay,List.length_cons,List.length_nil,List.cons_append,List.nil_append] at hM
    (refine ⟨0,?_⟩;simp (maxSteps:=2000000) -implicitDefEqProofs [-getElem?_pos,go_sem,eqV,plen,whO,Wh.pay,hM,svO])
  have hcp:=cpN (H:=[some (whO {}),some (whO {}),some ⟨.pb zr,0,some 13,1,true,false,0⟩,some (svO 2 13 0)]) (ob:=⟨.pb zr,0,some 13,1,true,false,0⟩) (m:=zr) (l:=l) (c:=if c = 0 then 0 else 2) (t:=1) rfl rfl rfl rfl hzl (by omega)
  have hdr:l ++ zr.drop l.length = cb:=by rw [hcw,htl,hzd]
  rw [hdr] at hcp
  have w1:IntKind.i64.wrap (1 + (n:Int)) = ((1 + n:Nat):Int):=by rw [wrap_i64 (by omega) (by omega)];omega
  apply Tells.seq (fr':=[(1,.int .u8 (t:Nat)),(4,.ptr 0 0 0 0),(7,.ptr 1 0 0 0),(8,.int .i64 (n:Nat)),(13,.ptr 3 0 0 0)]) (H':=[some (whO {}),some (whO {}),some ⟨.pb cb,0,some 13,1,true,false,0⟩,some (svO 2 13 0)])
  · generalize 1 + n = n1 at *
    simp only [whO,Wh.pay,svO,upd,List.set] at hcp
    (refine ⟨0,?_⟩;simp (maxSteps:=2000000) -implicitDefEqProofs [-getElem?_pos,go_sem,eqV,plen,whO,Wh.pay,svO,w1,hsl,hcp])
  clear hcp hsl hM hdr
  apply Tells.seq (fr':=[(1,.int .u8 (t:Nat)),(4,.ptr 0 0 0 0),(7,.ptr 1 0 0 0),(8,.int .i64 (n:Nat)),(13,.ptr 3 0 0 0),(14,.fn 61 [.ptr 3 0 0 0])]) (H':=[some (whO {}),some (whO {}),some ⟨.pb cb,0,some 13,1,true,false,0⟩,some (svO 2 13 0)])
  · (refine ⟨0,?_⟩;simp (maxSteps:=2000000) -implicitDefEqProofs [-getElem?_pos,go_sem,eqV,plen,scalars])
  have hN:∀ (H0 H1:Option AM.Obj) (i k:Nat) (I K:Int),I = (i:Nat)→K = (k:Nat)→i + k≤13→1≤k→k≤4→evT X 61 [.int .i64 I,.int .i64 K,.ptr 3 0 0 0] [H0,H1,some ⟨.pb cb,0,some 13,1,true,false,0⟩,some (svO 2 13 0)] = some (.int .i64 (nb cb i k:Nat),[H0,H1,some ⟨.pb cb,0,some 13,1,true,false,0⟩,some (svO 2 13 0)]) :=
    fun H0 H1 i k I K hI hK h1 h2 h3=>number_ev (H:=[H0,H1,some ⟨.pb cb,0,some 13,1,true,false,0⟩,some (svO 2 13 0)]) (o1:=3) (o2:=2) (g2:=0) hI hK hcl h1 h2 h3 rfl rfl rfl rfl rfl rfl rfl rfl rfl rfl (by decide)
  have hF:=fun w H=>fin_ev w ht H
  apply Tells.or (P:=fun fr H=>∃ w:Wh,fr = [(1,.int .u8 (t:Nat)),(4,.ptr 0 0 0 0),(7,.ptr 1 0 0 0),(8,.int .i64 (n:Nat))]∧H = [some (whO {}),some (whO w),some ⟨.pb cb,0,some 13,1,true,false,0⟩,some (svO 2 13 0)]∧(if t = 11 then ¬ 1 < (cb.headD 0).toNat∧w = spW cb else w = moW cb))
  · by_cases h11:t = 11
    · subst h11
      apply Tells.seq (fr':=[(1,.int .u8 11),(4,.ptr 0 0 0 0),(7,.ptr 1 0 0 0),(8,.int .i64 (n:Nat)),(13,.ptr 3 0 0 0),(14,.fn 61 [.ptr 3 0 0 0]),(58,.bool true)]) (H':=[some (whO {}),some (whO {}),some ⟨.pb cb,0,some 13,1,true,false,0⟩,some (svO 2 13 0)])
      · (refine ⟨0,?_⟩;simp (maxSteps:=2000000) -implicitDefEqProofs [-getElem?_pos,go_sem,eqV,plen])
      apply Tells.condT (by simp [evalO,getF])
      obtain ⟨y,ys,rfl⟩:∃ y ys,cb = y :: ys:=by
        cases cb with
        | nil=>simp at hcl
        | cons y ys=>exact ⟨y,ys,rfl⟩
      apply Tells.assoc
      by_cases hy:1 < y.toNat
      · refine Tells.of (o:=⟨.ret,[(4,.ptr 0 0 0 0),(5,.int .i64 0),(6,.int .i64 5)],[some (whO {}),some (whO {}),some ⟨.pb (y :: ys),0,some 13,1,true,false,0⟩,some (svO 2 13 0)]⟩) ⟨0,?_⟩ (.inr ⟨by simp,rfl,rfl,?_,?_,?_⟩)
        · have hyi:(1:Int) < (y.toNat:Int):=by omega
          simp (maxSteps:=2000000) -implicitDefEqProofs [-getElem?_pos,go_sem,eqV,plen,whO,Wh.pay,mkWh,svO,hyi,flatCells,splice,scalars]
        · rw [hr,if_pos rfl,if_pos (show 1 < ((y :: ys).headD 0).toNat from hy)];rfl
        · rw [hr,if_pos rfl,if_pos (show 1 < ((y :: ys).headD 0).toNat from hy)];rfl
        · rw [hr,if_pos rfl,if_pos (show 1 < ((y :: ys).headD 0).toNat from hy)];rfl
      · have hyi:¬ (1:Int) < (y.toNat:Int):=by omega
        apply Tells.seq (fr':=[(1,.int .u8 11),(4,.ptr 0 0 0 0),(7,.ptr 1 0 0 0),(8,.int .i64 (n:Nat)),(13,.ptr 3 0 0 0),(14,.fn 61 [.ptr 3 0 0 0]),(62,.bool false)]) (H':=[some (whO {}),some (whO {}),some ⟨.pb (y :: ys),0,some 13,1,true,false,0⟩,some (svO 2 13 0)])
        · (refine ⟨0,?_⟩;simp (maxSteps:=2000000) -implicitDefEqProofs [-getElem?_pos,go_sem,eqV,plen,svO,hyi])
        apply Tells.seq (fr':=[(1,.int .u8 11),(4,.ptr 0 0 0 0),(7,.ptr 1 0 0 0),(8,.int .i64 (n:Nat)),(13,.ptr 3 0 0 0),(14,.fn 61 [.ptr 3 0 0 0]),(62,.bool false)]) (H':=[some (whO {}),some (whO {}),some ⟨.pb (y :: ys),0,some 13,1,true,false,0⟩,some (svO 2 13 0)])
        · exact condF (by simp [evalO,getF]) ⟨0,rfl⟩
        refine Tells.of (o:=⟨.normal,[(1,.int .u8 11),(4,.ptr 0 0 0 0),(7,.ptr 1 0 0 0),(8,.int .i64 (n:Nat))],[some (whO {}),some (whO (spW (y :: ys))),some ⟨.pb (y :: ys),0,some 13,1,true,false,0⟩,some (svO 2 13 0)]⟩) ?_ (.inl ⟨rfl,_,rfl,rfl,by rw [if_pos rfl];exact ⟨show ¬ 1 < y.toNat by omega,rfl⟩⟩)
        have n1:=fun H0 H1=>hN H0 H1 1 4 1 4 rfl rfl (by omega) (by omega) (by omega)
        have n5:=fun H0 H1=>hN H0 H1 5 1 5 1 rfl rfl (by omega) (by omega) (by omega)
        have n6:=fun H0 H1=>hN H0 H1 6 1 6 1 rfl rfl (by omega) (by omega) (by omega)
        have n7:=fun H0 H1=>hN H0 H1 7 1 7 1 rfl rfl (by omega) (by omega) (by omega)
        have n8:=fun H0 H1=>hN H0 H1 8 4 8 4 rfl rfl (by omega) (by omega) (by omega)
        have hye:((y.toNat:Int) == 1) = (y.toNat == 1):=by
          by_cases h:y.toNat = 1
          · rw [h];rfl
          · have:(y.toNat == 1) = false:=by simpa using h
            rw [this];exact beq_eq_false_iff_ne.2 (by omega)
        exact piece (rw_dy n y ys _ _ _ _ _ _ hye n1 n5 n6 n7 n8) _ rfl
    · have h11b:((t:Int) == 11) = false:=beq_eq_false_iff_ne.2 (by omega)
      apply Tells.seq (fr':=[(1,.int .u8 (t:Nat)),(4,.ptr 0 0 0 0),(7,.ptr 1 0 0 0),(8,.int .i64 (n:Nat)),(13,.ptr 3 0 0 0),(14,.fn 61 [.ptr 3 0 0 0]),(58,.bool false)]) (H':=[some (whO {}),some (whO {}),some ⟨.pb cb,0,some 13,1,true,false,0⟩,some (svO 2 13 0)])
      · (refine ⟨0,?_⟩;simp (maxSteps:=2000000) -implicitDefEqProofs [-getElem?_pos,go_sem,eqV,plen,h11b])
      apply Tells.condF (by simp [evalO,getF])
      refine Tells.of (o:=⟨.normal,[(1,.int .u8 (t:Nat)),(4,.ptr 0 0 0 0),(7,.ptr 1 0 0 0),(8,.int .i64 (n:Nat))],[some (whO {}),some (whO (moW cb)),some ⟨.pb cb,0,some 13,1,true,false,0⟩,some (svO 2 13 0)]⟩) ⟨0,?_⟩ (.inl ⟨rfl,_,rfl,rfl,by rw [if_neg h11]⟩)
      have n0:=fun H0 H1=>hN H0 H1 0 2 0 2 rfl rfl (by omega) (by omega) (by omega)
      have n2:=fun H0 H1=>hN H0 H1 2 1 2 1 rfl rfl (by omega) (by omega) (by omega)
      have n3:=fun H0 H1=>hN H0 H1 3 1 3 1 rfl rfl (by omega) (by omega) (by omega)
      have n4:=fun H0 H1=>hN H0 H1 4 1 4 1 rfl rfl (by omega) (by omega) (by omega)
      have n5:=fun H0 H1=>hN H0 H1 5 1 5 1 rfl rfl (by omega) (by omega) (by omega)
      have n6:=fun H0 H1=>hN H0 H1 6 1 6 1 rfl rfl (by omega) (by omega) (by omega)
      have n7:=fun H0 H1=>hN H0 H1 7 4 7 4 rfl rfl (by omega) (by omega) (by omega)
      have hbd:=fun x1 x2 x3 x4 x5 x6 x7=>bdMo x1 x2 x3 x4 x5 x6 x7
      unfold moW
      generalize nb cb 0 2 = z0 at *
      generalize nb cb 2 1 = z2 at *
      generalize nb cb 3 1 = z3 at *
      generalize nb cb 4 1 = z4 at *
      generalize nb cb 5 1 = z5 at *
      generalize nb cb 6 1 = z6 at *
      generalize nb cb 7 4 = z7 at *
      simp only [svO] at n0 n2 n3 n4 n5 n6 n7
      simp (maxSteps:=2000000) -implicitDefEqProofs [-getElem?_pos,go_sem,eqV,plen,svO,whO,Wh.pay,n0,n2,n3,n4,n5,n6,n7,hbd,flatCells,splice,scalars]
  rintro fr H ⟨w,rfl,rfl,hw⟩
  have hres:R = if fin w t = false then ({},0,5) else (w,1 + n,0):=by
    rw [hr]
    by_cases h11:t = 11
    · rw [if_pos h11] at hw ⊢
      rw [if_neg hw.1,hw.2]
    · rw [if_neg h11] at hw ⊢
      rw [hw]
  rw [hres]
  have hFw:=hF w [some (whO {}),some (whO w),some ⟨.pb cb,0,some 13,1,true,false,0⟩,some (svO 2 13 0)]
  have hbd0:=bdW0
  apply Tells.assoc
  cases hf:fin w t with
  | false =>
    rw [hf] at hFw
    refine Tells.of (o:=⟨.ret,[(4,.ptr 0 0 0 0),(5,.int .i64 0),(6,.int .i64 5)],[some (whO {}),some (whO w),some ⟨.pb cb,0,some 13,1,true,false,0⟩,some (svO 2 13 0)]⟩) ⟨0,?_⟩ ⟨rfl,rfl,by rw [if_pos rfl];rfl,by rw [if_pos rfl];rfl,by rw [if_pos rfl];rfl⟩
    simp only [whO,Wh.pay] at hFw
    simp (maxSteps:=2000000) -implicitDefEqProofs [-getElem?_pos,go_sem,eqV,plen,whO,Wh.pay,mkWh,hFw,hbd0,flatCells,splice,scalars]
  | true =>
    rw [hf] at hFw
    refine Tells.of (o:=⟨.ret,[(4,.ptr 0 0 0 0),(5,.int .i64 ((1 + n:Nat):Int)),(6,.int .i64 0)],[some (whO w),some (whO w),some ⟨.pb cb,0,some 13,1,true,false,0⟩,some (svO 2 13 0)]⟩) ⟨0,?_⟩ ⟨rfl,rfl,by rw [if_neg (by simp)];rfl,by rw [if_neg (by simp)];rfl,by rw [if_neg (by simp)];rfl⟩
    simp only [whO,Wh.pay] at hFw
    generalize 1 + n = n1 at *
    simp (maxSteps:=2000000) -implicitDefEqProofs [-getElem?_pos,go_sem,eqV,plen,whO,Wh.pay,mkWh,hFw,w1,flatCells,splice,scalars]
end
end Go.Proofs.YtafdnpcamepbmaaGreatDoor
