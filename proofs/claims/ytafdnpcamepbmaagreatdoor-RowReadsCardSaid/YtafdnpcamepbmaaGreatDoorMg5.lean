/- V3d to VC: texts of this claim, one behind the other; what each shows stands at its head. -/
import Derived.Test.YtafdnpcamepbmaaGreatDoorMg4
set_option linter.unusedSimpArgs false
set_option linter.unusedVariables false
set_option maxRecDepth 100000
set_option maxHeartbeats 8000000
namespace Go.Proofs.YtafdnpcamepbmaaGreatDoor
open Go.AM
theorem pieceT {O:Option Code} {P:Code→Prop} (h:∃ code,O = some code∧P code) (code':Code) (h':O = some code'):P code':=by
  obtain ⟨c,h1,h2⟩:=h
  rw [h'] at h1
  exact (Option.some.inj h1) ▸ h2
section
variable (v:Va) (t:Ty)
theorem check_code (ht:t.t < 256) (hb:v.b < 18446744073709551616) (hi:-9223372036854775808≤v.i∧v.i < 9223372036854775808):∃ code,Tryz.f34.body = some code ∧
    Tells (Rets fun fr H=>getF fr 4 = .int .i64 (chkV v t)) X (evT X) 34 0 code [(0,.agg v.pay),(1,.agg t.pay)] []:=by
  refine ⟨_,rfl,?_⟩
  have hK:=kind_ev ht [some (vaO v),some (tyO t)]
  have hS:=size_ev' ht [some (vaO v),some (tyO t)]
  have hF:=fin_ev v.w ht [some (vaO v),some (tyO t)]
  have hbd:=kind_bd t.t t.u
  have hsz:=size_num (t:=t.t) (u:=t.u)
  have hn8 : sizeN t.t ≤ 8 := by unfold sizeN; repeat' split
                                 all_goals omega
  unfold chkV okVa
  apply Tells.seq (fr':=[(2,.ptr 0 0 0 0),(3,.ptr 1 0 0 0)]) (H':=[some (vaO v),some (tyO t)])
  · (refine ⟨0,?_⟩;simp (maxSteps:=2000000) -implicitDefEqProofs [-getElem?_pos,go_sem,eqV,plen,vaO,tyO,Va.pay,Ty.pay])
  apply Tells.seq (fr':=[(2,.ptr 0 0 0 0),(3,.ptr 1 0 0 0),(5,.int .i64 (kindN t.t t.u))]) (H':=[some (vaO v),some (tyO t)])
  · clear hS hF
    simp only [vaO,tyO,Va.pay,Ty.pay] at hK
    generalize kindN t.t t.u = k at *
    (refine ⟨0,?_⟩;simp (maxSteps:=2000000) -implicitDefEqProofs [-getElem?_pos,go_sem,eqV,plen,vaO,tyO,Va.pay,Ty.pay,mkTy,hK])
  clear hK
  generalize kindN t.t t.u = k at *
  by_cases hk0:k < 0
  · rw [if_pos hk0]
    refine Tells.of (o:=⟨.ret,[(4,.int .i64 2)],[some (vaO v),some (tyO t)]⟩) ?_ ⟨rfl,rfl⟩
    apply Run.seq_out (hne:=by simp)
    refine ⟨0,?_⟩
    simp (maxSteps:=2000000) -implicitDefEqProofs [-getElem?_pos,go_sem,eqV,plen,hk0]
  rw [if_neg hk0]
  apply Tells.seq (fr':=[(2,.ptr 0 0 0 0),(3,.ptr 1 0 0 0),(5,.int .i64 k),(11,.bool false)]) (H':=[some (vaO v),some (tyO t)])
  · (refine ⟨0,?_⟩;simp (maxSteps:=2000000) -implicitDefEqProofs [-getElem?_pos,go_sem,eqV,plen,hk0])
  have hE0:=fun H xo yo=>eqVa v {} H xo yo
  by_cases hz:v = {}
  · rw [if_pos hz]
    rw [decide_eq_true hz] at hE0
    refine Tells.of (o:=⟨.ret,[(4,.int .i64 0)],[some (vaO v),some (tyO t)]⟩) ?_ ⟨rfl,rfl⟩
    apply Run.seq_out (hne:=by simp)
    apply Run.seq (fr':=[(2,.ptr 0 0 0 0),(3,.ptr 1 0 0 0),(5,.int .i64 k),(14,.bool true)]) (H':=[some (vaO v),some (tyO t)])
    · have hb0:=bdV0
      have hE:=hE0
      generalize hpz:(({}:Va).pay) = pz at *
      simp only [Va.pay] at hE
      (refine ⟨0,?_⟩;simp (maxSteps:=2000000) -implicitDefEqProofs [-getElem?_pos,go_sem,eqV,plen,-eqV,vaO,tyO,Va.pay,mkVa,hb0,hE])
    refine ⟨0,?_⟩
    simp (maxSteps:=2000000) -implicitDefEqProofs [-getElem?_pos,go_sem,eqV,plen]
  rw [if_neg hz]
  rw [decide_eq_false hz] at hE0
  apply Tells.seq (fr':=[(2,.ptr 0 0 0 0),(3,.ptr 1 0 0 0),(5,.int .i64 k),(14,.bool false)]) (H':=[some (vaO v),some (tyO t)])
  · have hb0:=bdV0
    have hE:=hE0
    generalize hpz:(({}:Va).pay) = pz at *
    simp only [Va.pay] at hE
    (refine ⟨0,?_⟩;simp (maxSteps:=2000000) -implicitDefEqProofs [-getElem?_pos,go_sem,eqV,plen,-eqV,vaO,tyO,Va.pay,mkVa,hb0,hE])
  clear hE0
  apply Tells.seq (fr':=[(2,.ptr 0 0 0 0),(3,.ptr 1 0 0 0),(5,.int .i64 k),(6,.bool (v.k == k))]) (H':=[some (vaO v),some (tyO t)])
  · (refine ⟨0,?_⟩;simp (maxSteps:=2000000) -implicitDefEqProofs [-getElem?_pos,go_sem,eqV,plen,vaO,tyO,Va.pay])
  generalize hsn:sizeN t.t = n at *
  have w8:IntKind.i64.wrap (8 * (n:Int)) = ((8 * n:Nat):Int):=by rw [wrap_i64 (by omega) (by omega)];omega
  apply Tells.seq (fr':=ckFr k (v.k == k) (8 * n)) (H':=[some (vaO v),some (tyO t)])
  · simp only [vaO,tyO,Va.pay,Ty.pay] at hS
    generalize 8 * n = n8 at *
    (refine ⟨0,?_⟩;simp (maxSteps:=2000000) -implicitDefEqProofs [-getElem?_pos,go_sem,eqV,plen,vaO,tyO,Va.pay,Ty.pay,hS,w8,ckFr])
  clear hS
  have main:∃ code,ckO = some code∧Tells (Goes (ckP v t k n)) X (evT X) 34 0 code (ckFr k (v.k == k) (8 * n)) [some (vaO v),some (tyO t)]:=by
    by_cases k1:v.k = 1
    · exact ck1 v t k n hbd hk0 hsz hF k1
    by_cases k234:v.k = 2∨v.k = 3∨v.k = 4
    · exact ck234 v t k n hbd hk0 hsz hF k234
    exact ckR v t k n hbd hk0 hsz hF k1 k234
  apply Tells.andThen (P:=ckP v t k n)
  · exact pieceT main _ rfl
  rintro fr H ⟨rfl,hfr⟩
  generalize okVk v k n t.t = ok at *
  cases ok with
  | true =>
    refine Tells.of (o:=⟨.ret,[(4,.int .i64 0)],[some (vaO v),some (tyO t)]⟩) ⟨0,?_⟩ ⟨rfl,rfl⟩
    rcases hfr with rfl | rfl
    · simp (maxSteps:=2000000) -implicitDefEqProofs [-getElem?_pos,go_sem,eqV,plen,unV]
    · simp (maxSteps:=2000000) -implicitDefEqProofs [-getElem?_pos,go_sem,eqV,plen,unV]
  | false =>
    refine Tells.of (o:=⟨.ret,[(4,.int .i64 2)],[some (vaO v),some (tyO t)]⟩) ⟨0,?_⟩ ⟨rfl,rfl⟩
    rcases hfr with rfl | rfl
    · simp (maxSteps:=2000000) -implicitDefEqProofs [-getElem?_pos,go_sem,eqV,plen,unV]
    · simp (maxSteps:=2000000) -implicitDefEqProofs [-getElem?_pos,go_sem,eqV,plen,unV]
end
theorem check_ev {v:Va} {t:Ty} (ht:t.t < 256) (hb:v.b < 18446744073709551616) (hi:-9223372036854775808≤v.i∧v.i < 9223372036854775808) (H:AM.Heap):evT X 34 [.agg v.pay,.agg t.pay] H = some (.int .i64 (chkV v t),H):=by
  obtain ⟨code,hcode,o,⟨he,h4⟩,hr⟩:=check_code v t ht hb hi
  exact evT_eq (Ev1.toldP (l:=[.int .i64 (chkV v t)]) (evT_below X) Tryz.func34 hcode (args_va (i:=0) (args_ty (i:=1) (args_nil 2))) (by simp [Va.pay,Ty.pay,idsL,ids]) (by simp [gtag]) rfl rfl rfl ⟨o,⟨he,by show some [getF o.fr 4] = _;rw [h4]⟩,hr⟩)
end Go.Proofs.YtafdnpcamepbmaaGreatDoor
namespace Go.Proofs.YtafdnpcamepbmaaGreatDoor
open Go.AM
theorem chk_ok {v:Va} {t:Ty} (h:chkV v t = 0):v = {}∨okVa v t = true:=by
  unfold chkV at h
  by_cases h1:kindN t.t t.u < 0
  · rw [if_pos h1] at h;cases h
  rw [if_neg h1] at h
  by_cases h2:v = {}
  · exact .inl h2
  rw [if_neg h2] at h
  cases h3:okVa v t with
  | true=>exact .inr rfl
  | false=>rw [h3] at h;cases h
theorem ok_facts {v:Va} {t:Ty} (h:chkV v t = 0):((v.k = 1∨v.k = 2∨v.k = 3∨v.k = 4)→1≤sizeN t.t∧sizeN t.t≤8)∧((v.k = 5∨v.k = 6)→fin v.w t.t = true)∧(v.k = 7→v.t.length≤16777216)∧(v.k = 0∨v.k = 1∨v.k = 2∨v.k = 3∨v.k = 4∨v.k = 5∨v.k = 6∨v.k = 7):=by
  rcases chk_ok h with rfl | h
  · refine ⟨fun h=>?_,fun h=>?_,fun h=>?_,.inl rfl⟩
    · exact absurd h (by decide)
    · exact absurd h (by decide)
    · exact absurd h (by decide)
  unfold okVa okVk at h
  by_cases k1:v.k = 1
  · rw [if_pos k1] at h
    simp only [Bool.and_eq_true,decide_eq_true_eq] at h
    have:=size_num (t:=t.t) (u:=t.u) (.inl h.1)
    exact ⟨fun _=>by omega,fun h=>by omega,fun h=>by omega,by omega⟩
  rw [if_neg k1] at h
  by_cases k2:v.k = 2∨v.k = 3∨v.k = 4
  · rw [if_pos k2] at h
    simp only [Bool.and_eq_true,decide_eq_true_eq] at h
    have:=size_num (t:=t.t) (u:=t.u) (by omega)
    exact ⟨fun _=>by omega,fun h=>by omega,fun h=>by omega,by omega⟩
  rw [if_neg k2] at h
  by_cases k5:v.k = 5∨v.k = 6
  · rw [if_pos k5] at h
    simp only [Bool.and_eq_true,decide_eq_true_eq] at h
    exact ⟨fun h=>by omega,fun _=>h.2.2,fun h=>by omega,by omega⟩
  rw [if_neg k5] at h
  by_cases k7:v.k = 7
  · rw [if_pos k7] at h
    simp only [Bool.and_eq_true,decide_eq_true_eq] at h
    exact ⟨fun h=>by omega,fun h=>by omega,fun _=>h.2.2,by omega⟩
  rw [if_neg k7] at h
  cases h
section
variable (c:Nat) (b:List UInt8) (v:Va) (t:Ty)
end
end Go.Proofs.YtafdnpcamepbmaaGreatDoor
namespace Go.Proofs.YtafdnpcamepbmaaGreatDoor
open Go.AM
end Go.Proofs.YtafdnpcamepbmaaGreatDoor
namespace Go.Proofs.YtafdnpcamepbmaaGreatDoor
open Go.AM
end Go.Proofs.YtafdnpcamepbmaaGreatDoor
namespace Go.Proofs.YtafdnpcamepbmaaGreatDoor
open Go.AM
theorem b1 {x:Int} (h0:0≤x) (h1:x < 256):((UInt8.ofNat x.toNat).toNat:Int) = x:=by
  rw [UInt8.toNat_ofNat',Nat.mod_eq_of_lt (by omega)];omega
end Go.Proofs.YtafdnpcamepbmaaGreatDoor
namespace Go.Proofs.YtafdnpcamepbmaaGreatDoor
open Go.AM
end Go.Proofs.YtafdnpcamepbmaaGreatDoor
namespace Go.Proofs.YtafdnpcamepbmaaGreatDoor
open Go.AM
def txV (v:Va):List UInt8:=if v.k = 0 then [251] else aT v.t
def txR (l:List Va):List UInt8:=l.flatMap txV
def rdTx:Nat→List Va→List UInt8→List Va × List UInt8 × Int
  | 0,a,r=>(a,r,0)
  | k + 1,a,r=>if r.head? = some 251 then rdTx k (a ++ [{}]) (r.drop 1)
    else if (rdT r).2.2 ≠ 0 then ([],[],(rdT r).2.2) else if 16777216 < (rdT r).1.length then ([],[],5)
    else rdTx k (a ++ [{ k:=7,t:=(rdT r).1 }]) (r.drop (rdT r).2.1)
def okTx (v:Va):Prop:=v = {}∨(v = { k:=7,t:=v.t }∧v.t.length≤16777216)
end Go.Proofs.YtafdnpcamepbmaaGreatDoor
namespace Go.Proofs.YtafdnpcamepbmaaGreatDoor
open Go.AM
section
variable (b:List UInt8) (d:Nat) (l:List Pm) (bd:Bool) (K m8:Nat)
end
section
variable (b:List UInt8) (d:Nat) (l:List Pm) (bd:Bool) (K:Nat)
end
end Go.Proofs.YtafdnpcamepbmaaGreatDoor
namespace Go.Proofs.YtafdnpcamepbmaaGreatDoor
open Go.AM
def bitB (b:List UInt8) (i:Nat):Bool:=((b.getD (i / 8) 0).toNat / 2 ^ (i % 8)) % 2 == 1
theorem and1 {y j:Nat} (hy:y < 256):IntKind.u8.wrap ((AM.bits .u8 ((y / 2 ^ j:Nat):Int) &&& AM.bits .u8 1).toNat:Nat) = (((y / 2 ^ j) % 2:Nat):Int):=by
  have hd:y / 2 ^ j < 256:=Nat.lt_of_le_of_lt (Nat.div_le_self _ _) hy
  have hb:∀ v:Nat,v < 256→(AM.bits .u8 (v:Int)).toNat = v:=by
    intro v hv
    unfold AM.bits
    simp [IntKind.bits]
    omega
  have e:(AM.bits .u8 ((y / 2 ^ j:Nat):Int) &&& AM.bits .u8 1).toNat = (y / 2 ^ j) % 2:=by
    rw [show (AM.bits .u8 ((y / 2 ^ j:Nat):Int) &&& AM.bits .u8 1).toNat = (AM.bits .u8 ((y / 2 ^ j:Nat):Int)).toNat &&& (AM.bits .u8 1).toNat by simp]
    rw [hb _ hd,show (AM.bits .u8 1).toNat = 1 from rfl,Nat.and_one_is_mod]
  rw [e]
  have:(y / 2 ^ j) % 2 < 2:=Nat.mod_lt _ (by omega)
  exact wrap_u8 (by omega) (by omega)
theorem shr8 {y j:Nat} (hj:j < 8):Int.fdiv (y:Int) (2 ^ (min j 8)) = ((y / 2 ^ j:Nat):Int):=by
  rw [Nat.min_eq_left (by omega)]
  rw [show ((2:Int) ^ j) = ((2 ^ j:Nat):Int) by simp]
  rw [Int.fdiv_eq_ediv_of_nonneg _ (Int.natCast_nonneg _)]
  exact (Int.natCast_ediv _ _).symm
def tyI (ts:List Ty) (i:Nat):Ty:=ts.getD i ⟨0,false⟩
theorem tyI_at {ts:List Ty} {i:Nat} {t:Ty} (h:ts[i]? = some t):tyI ts i = t:=by unfold tyI;rw [List.getD,h];rfl
def zr (l:List Va) (ts:List Ty):List Pm:=List.zipWith (fun v t=>(⟨t,false,v⟩:Pm)) l ts
end Go.Proofs.YtafdnpcamepbmaaGreatDoor
namespace Go.Proofs.YtafdnpcamepbmaaGreatDoor
open Go.AM
def rbF (f:Nat→Bool) (ts:List Ty):Nat→Nat→List Va→List UInt8→List Va × List UInt8 × Int
  | 0,_,a,r=>(a,r,0)
  | k + 1,i,a,r =>
    if f i = true then rbF f ts k (i + 1) (a ++ [{}]) r
    else if (rdV r (tyI ts i)).2.2 ≠ 0 then ([],[],(rdV r (tyI ts i)).2.2)
    else rbF f ts k (i + 1) (a ++ [(rdV r (tyI ts i)).1]) (r.drop (rdV r (tyI ts i)).2.1)
def rwZ (x:List Va × List UInt8 × Int):List Va × Int:=if x.2.2 ≠ 0 then ([],x.2.2) else if x.2.1.length > 0 then ([],5) else (x.1,0)
def bzB (b:List UInt8) (n i:Nat):Bool:=bitB b i && (decide (i < 2) || decide (n + 2≤i))
def nzB (b:List UInt8) (ts:List Ty) (i:Nat):Bool:=decide ((tyI ts i).t = 6) && !bitB b (i + 2)
def rdBm (b r:List UInt8) (ts:List Ty):List Va × Int :=
  if (List.range (8 * b.length)).any (bzB b ts.length) then ([],5) else if (List.range ts.length).any (nzB b ts) then ([],5) else
  rwZ (rbF (fun i=>bitB b (i + 2)) ts ts.length 0 [] r)
def rdBin (b:List UInt8) (ts:List Ty):List Va × Int :=
  if 4096 < ts.length then ([],3) else if ts.any (fun t=>decide (kindN t.t t.u < 0)) then ([],2) else
  match b with
  | []=>([],4)
  | y :: r=>if y ≠ 0 then ([],5) else if r.length < (ts.length + 9) / 8 then ([],4) else rdBm (r.take ((ts.length + 9) / 8)) (r.drop ((ts.length + 9) / 8)) ts
theorem okVk_k {v:Va} {k:Int} {n tt:Nat} (h:okVk v k n tt = true):k = v.k∧1≤v.k:=by
  unfold okVk at h
  by_cases k1:v.k = 1
  · rw [if_pos k1] at h
    simp only [Bool.and_eq_true,decide_eq_true_eq] at h
    omega
  rw [if_neg k1] at h
  by_cases k2:v.k = 2∨v.k = 3∨v.k = 4
  · rw [if_pos k2] at h
    simp only [Bool.and_eq_true,decide_eq_true_eq] at h
    omega
  rw [if_neg k2] at h
  by_cases k5:v.k = 5∨v.k = 6
  · rw [if_pos k5] at h
    simp only [Bool.and_eq_true,decide_eq_true_eq] at h
    omega
  rw [if_neg k5] at h
  by_cases k7:v.k = 7
  · rw [if_pos k7] at h
    simp only [Bool.and_eq_true,decide_eq_true_eq] at h
    omega
  rw [if_neg k7] at h
  cases h
end Go.Proofs.YtafdnpcamepbmaaGreatDoor
namespace Go.Proofs.YtafdnpcamepbmaaGreatDoor
open Go.AM
def tyVS:Ty:=⟨253,false⟩
def txApp (b:List UInt8) (l:List Va):List UInt8 × Int :=
  if 4096 < l.length then ([],3) else if l.any (fun v=>decide (chkV v tyVS ≠ 0)) then ([],2) else (b ++ txR l,0)
def rdTxt (b:List UInt8) (n:Int):List Va × Int:=if n < 0∨4096 < n then ([],2) else rwZ (rdTx n.toNat [] b)
theorem ok_tx {v:Va} (h:chkV v tyVS = 0):okTx v:=by
  rcases chk_ok h with h | h
  · exact .inl h
  · right
    unfold okVa at h
    have hk:kindN tyVS.t tyVS.u = 7:=by decide
    have hk2:=okVk_k h
    rw [hk] at h hk2
    unfold okVk at h
    rw [if_neg (by omega),if_neg (by omega),if_neg (by omega),if_pos hk2.1.symm] at h
    simp only [Bool.and_eq_true,decide_eq_true_eq] at h
    exact ⟨h.2.1,h.2.2⟩
end Go.Proofs.YtafdnpcamepbmaaGreatDoor
namespace Go.Proofs.YtafdnpcamepbmaaGreatDoor
open Go.AM
def c81 (v:Va):Bool:=(((v.k != 1 && v.i != 0) || (((v.k != 2 && v.k != 3) && v.k != 4) && ((v.b:Int) != 0))) || (v.k != 7 && !(v.t == []))) || ((v.k != 5 && v.k != 6) && !(decide (v.w = {})))
noncomputable def rcO:Option Code:=((((((Tryz.f50.body).bind cR).bind cR).bind cR).bind cR).bind cL).bind cL
def rcFr (f:Bool) (n:Nat):AM.Frame:=[(2,.ptr 0 0 0 0),(3,.ptr 1 0 0 0),(6,.bool f),(7,.int .u64 (n:Nat))]
theorem c81_1 (v:Va) (t:Ty) (f:Bool) (n:Nat) (kv:v.k = 1):∃ code,rcO = some code ∧
    Run X (evT X) 50 0 code (rcFr f n) [some (vaO v),some (tyO t)] ⟨.normal,rcFr f n ++ [(81,.bool (c81 v))],[some (vaO v),some (tyO t)]⟩:=by
  refine ⟨_,rfl,?_⟩
  unfold c81
  have hW:=fun H xo yo=>eqWh v.w {} H xo yo
  have hb0:=bdW0
  generalize decide (v.w = {}) = wz at *
  simp only [Wh.pay,Int.cast_ofNat_Int] at hW
  by_cases a0:v.b = 0
  case neg =>
    have e0:((v.b:Int) != 0) = true:=by simpa using a0
    (refine ⟨0,?_⟩;simp (maxSteps:=2000000) -implicitDefEqProofs [-getElem?_pos,go_sem,eqV,plen,-eqV,rcFr,vaO,tyO,Va.pay,mkWh,hb0,hW,strOp,kv,e0])
  by_cases a1:v.t = []
  case neg =>
    have e1:(v.t == []) = false:=by simpa using a1
    (refine ⟨0,?_⟩;simp (maxSteps:=2000000) -implicitDefEqProofs [-getElem?_pos,go_sem,eqV,plen,-eqV,rcFr,vaO,tyO,Va.pay,mkWh,hb0,hW,strOp,kv,a0,e1])
  (refine ⟨0,?_⟩;simp (maxSteps:=2000000) -implicitDefEqProofs [-getElem?_pos,go_sem,eqV,plen,-eqV,rcFr,vaO,tyO,Va.pay,mkWh,hb0,hW,strOp,kv,a0,a1])
theorem c81_2 (v:Va) (t:Ty) (f:Bool) (n:Nat) (kv:v.k = 2):∃ code,rcO = some code ∧
    Run X (evT X) 50 0 code (rcFr f n) [some (vaO v),some (tyO t)] ⟨.normal,rcFr f n ++ [(81,.bool (c81 v))],[some (vaO v),some (tyO t)]⟩:=by
  refine ⟨_,rfl,?_⟩
  unfold c81
  have hW:=fun H xo yo=>eqWh v.w {} H xo yo
  have hb0:=bdW0
  generalize decide (v.w = {}) = wz at *
  simp only [Wh.pay,Int.cast_ofNat_Int] at hW
  by_cases a0:v.i = 0
  case neg =>
    have e0:(v.i != 0) = true:=by simpa using a0
    (refine ⟨0,?_⟩;simp (maxSteps:=2000000) -implicitDefEqProofs [-getElem?_pos,go_sem,eqV,plen,-eqV,rcFr,vaO,tyO,Va.pay,mkWh,hb0,hW,strOp,kv,e0])
  by_cases a1:v.t = []
  case neg =>
    have e1:(v.t == []) = false:=by simpa using a1
    (refine ⟨0,?_⟩;simp (maxSteps:=2000000) -implicitDefEqProofs [-getElem?_pos,go_sem,eqV,plen,-eqV,rcFr,vaO,tyO,Va.pay,mkWh,hb0,hW,strOp,kv,a0,e1])
  (refine ⟨0,?_⟩;simp (maxSteps:=2000000) -implicitDefEqProofs [-getElem?_pos,go_sem,eqV,plen,-eqV,rcFr,vaO,tyO,Va.pay,mkWh,hb0,hW,strOp,kv,a0,a1])
theorem c81_3 (v:Va) (t:Ty) (f:Bool) (n:Nat) (kv:v.k = 3):∃ code,rcO = some code ∧
    Run X (evT X) 50 0 code (rcFr f n) [some (vaO v),some (tyO t)] ⟨.normal,rcFr f n ++ [(81,.bool (c81 v))],[some (vaO v),some (tyO t)]⟩:=by
  refine ⟨_,rfl,?_⟩
  unfold c81
  have hW:=fun H xo yo=>eqWh v.w {} H xo yo
  have hb0:=bdW0
  generalize decide (v.w = {}) = wz at *
  simp only [Wh.pay,Int.cast_ofNat_Int] at hW
  by_cases a0:v.i = 0
  case neg =>
    have e0:(v.i != 0) = true:=by simpa using a0
    (refine ⟨0,?_⟩;simp (maxSteps:=2000000) -implicitDefEqProofs [-getElem?_pos,go_sem,eqV,plen,-eqV,rcFr,vaO,tyO,Va.pay,mkWh,hb0,hW,strOp,kv,e0])
  by_cases a1:v.t = []
  case neg =>
    have e1:(v.t == []) = false:=by simpa using a1
    (refine ⟨0,?_⟩;simp (maxSteps:=2000000) -implicitDefEqProofs [-getElem?_pos,go_sem,eqV,plen,-eqV,rcFr,vaO,tyO,Va.pay,mkWh,hb0,hW,strOp,kv,a0,e1])
  (refine ⟨0,?_⟩;simp (maxSteps:=2000000) -implicitDefEqProofs [-getElem?_pos,go_sem,eqV,plen,-eqV,rcFr,vaO,tyO,Va.pay,mkWh,hb0,hW,strOp,kv,a0,a1])
theorem c81_4 (v:Va) (t:Ty) (f:Bool) (n:Nat) (kv:v.k = 4):∃ code,rcO = some code ∧
    Run X (evT X) 50 0 code (rcFr f n) [some (vaO v),some (tyO t)] ⟨.normal,rcFr f n ++ [(81,.bool (c81 v))],[some (vaO v),some (tyO t)]⟩:=by
  refine ⟨_,rfl,?_⟩
  unfold c81
  have hW:=fun H xo yo=>eqWh v.w {} H xo yo
  have hb0:=bdW0
  generalize decide (v.w = {}) = wz at *
  simp only [Wh.pay,Int.cast_ofNat_Int] at hW
  by_cases a0:v.i = 0
  case neg =>
    have e0:(v.i != 0) = true:=by simpa using a0
    (refine ⟨0,?_⟩;simp (maxSteps:=2000000) -implicitDefEqProofs [-getElem?_pos,go_sem,eqV,plen,-eqV,rcFr,vaO,tyO,Va.pay,mkWh,hb0,hW,strOp,kv,e0])
  by_cases a1:v.t = []
  case neg =>
    have e1:(v.t == []) = false:=by simpa using a1
    (refine ⟨0,?_⟩;simp (maxSteps:=2000000) -implicitDefEqProofs [-getElem?_pos,go_sem,eqV,plen,-eqV,rcFr,vaO,tyO,Va.pay,mkWh,hb0,hW,strOp,kv,a0,e1])
  (refine ⟨0,?_⟩;simp (maxSteps:=2000000) -implicitDefEqProofs [-getElem?_pos,go_sem,eqV,plen,-eqV,rcFr,vaO,tyO,Va.pay,mkWh,hb0,hW,strOp,kv,a0,a1])
theorem c81_5 (v:Va) (t:Ty) (f:Bool) (n:Nat) (kv:v.k = 5):∃ code,rcO = some code ∧
    Run X (evT X) 50 0 code (rcFr f n) [some (vaO v),some (tyO t)] ⟨.normal,rcFr f n ++ [(81,.bool (c81 v))],[some (vaO v),some (tyO t)]⟩:=by
  refine ⟨_,rfl,?_⟩
  unfold c81
  have hW:=fun H xo yo=>eqWh v.w {} H xo yo
  have hb0:=bdW0
  generalize decide (v.w = {}) = wz at *
  simp only [Wh.pay,Int.cast_ofNat_Int] at hW
  by_cases a0:v.i = 0
  case neg =>
    have e0:(v.i != 0) = true:=by simpa using a0
    (refine ⟨0,?_⟩;simp (maxSteps:=2000000) -implicitDefEqProofs [-getElem?_pos,go_sem,eqV,plen,-eqV,rcFr,vaO,tyO,Va.pay,mkWh,hb0,hW,strOp,kv,e0])
  by_cases a1:v.b = 0
  case neg =>
    have e1:((v.b:Int) != 0) = true:=by simpa using a1
    (refine ⟨0,?_⟩;simp (maxSteps:=2000000) -implicitDefEqProofs [-getElem?_pos,go_sem,eqV,plen,-eqV,rcFr,vaO,tyO,Va.pay,mkWh,hb0,hW,strOp,kv,a0,e1])
  by_cases a2:v.t = []
  case neg =>
    have e2:(v.t == []) = false:=by simpa using a2
    (refine ⟨0,?_⟩;simp (maxSteps:=2000000) -implicitDefEqProofs [-getElem?_pos,go_sem,eqV,plen,-eqV,rcFr,vaO,tyO,Va.pay,mkWh,hb0,hW,strOp,kv,a0,a1,e2])
  (refine ⟨0,?_⟩;simp (maxSteps:=2000000) -implicitDefEqProofs [-getElem?_pos,go_sem,eqV,plen,-eqV,rcFr,vaO,tyO,Va.pay,mkWh,hb0,hW,strOp,kv,a0,a1,a2])
theorem c81_6 (v:Va) (t:Ty) (f:Bool) (n:Nat) (kv:v.k = 6):∃ code,rcO = some code ∧
    Run X (evT X) 50 0 code (rcFr f n) [some (vaO v),some (tyO t)] ⟨.normal,rcFr f n ++ [(81,.bool (c81 v))],[some (vaO v),some (tyO t)]⟩:=by
  refine ⟨_,rfl,?_⟩
  unfold c81
  have hW:=fun H xo yo=>eqWh v.w {} H xo yo
  have hb0:=bdW0
  generalize decide (v.w = {}) = wz at *
  simp only [Wh.pay,Int.cast_ofNat_Int] at hW
  by_cases a0:v.i = 0
  case neg =>
    have e0:(v.i != 0) = true:=by simpa using a0
    (refine ⟨0,?_⟩;simp (maxSteps:=2000000) -implicitDefEqProofs [-getElem?_pos,go_sem,eqV,plen,-eqV,rcFr,vaO,tyO,Va.pay,mkWh,hb0,hW,strOp,kv,e0])
  by_cases a1:v.b = 0
  case neg =>
    have e1:((v.b:Int) != 0) = true:=by simpa using a1
    (refine ⟨0,?_⟩;simp (maxSteps:=2000000) -implicitDefEqProofs [-getElem?_pos,go_sem,eqV,plen,-eqV,rcFr,vaO,tyO,Va.pay,mkWh,hb0,hW,strOp,kv,a0,e1])
  by_cases a2:v.t = []
  case neg =>
    have e2:(v.t == []) = false:=by simpa using a2
    (refine ⟨0,?_⟩;simp (maxSteps:=2000000) -implicitDefEqProofs [-getElem?_pos,go_sem,eqV,plen,-eqV,rcFr,vaO,tyO,Va.pay,mkWh,hb0,hW,strOp,kv,a0,a1,e2])
  (refine ⟨0,?_⟩;simp (maxSteps:=2000000) -implicitDefEqProofs [-getElem?_pos,go_sem,eqV,plen,-eqV,rcFr,vaO,tyO,Va.pay,mkWh,hb0,hW,strOp,kv,a0,a1,a2])
theorem c81_7 (v:Va) (t:Ty) (f:Bool) (n:Nat) (kv:v.k = 7):∃ code,rcO = some code ∧
    Run X (evT X) 50 0 code (rcFr f n) [some (vaO v),some (tyO t)] ⟨.normal,rcFr f n ++ [(81,.bool (c81 v))],[some (vaO v),some (tyO t)]⟩:=by
  refine ⟨_,rfl,?_⟩
  unfold c81
  have hW:=fun H xo yo=>eqWh v.w {} H xo yo
  have hb0:=bdW0
  generalize decide (v.w = {}) = wz at *
  simp only [Wh.pay,Int.cast_ofNat_Int] at hW
  by_cases a0:v.i = 0
  case neg =>
    have e0:(v.i != 0) = true:=by simpa using a0
    (refine ⟨0,?_⟩;simp (maxSteps:=2000000) -implicitDefEqProofs [-getElem?_pos,go_sem,eqV,plen,-eqV,rcFr,vaO,tyO,Va.pay,mkWh,hb0,hW,strOp,kv,e0])
  by_cases a1:v.b = 0
  case neg =>
    have e1:((v.b:Int) != 0) = true:=by simpa using a1
    (refine ⟨0,?_⟩;simp (maxSteps:=2000000) -implicitDefEqProofs [-getElem?_pos,go_sem,eqV,plen,-eqV,rcFr,vaO,tyO,Va.pay,mkWh,hb0,hW,strOp,kv,a0,e1])
  (refine ⟨0,?_⟩;simp (maxSteps:=2000000) -implicitDefEqProofs [-getElem?_pos,go_sem,eqV,plen,-eqV,rcFr,vaO,tyO,Va.pay,mkWh,hb0,hW,strOp,kv,a0,a1])
theorem c81_o (v:Va) (t:Ty) (f:Bool) (n:Nat) (k1:(v.k != 1) = true) (k2:(v.k != 2) = true) (k3:(v.k != 3) = true) (k4:(v.k != 4) = true) (k5:(v.k != 5) = true) (k6:(v.k != 6) = true) (k7:(v.k != 7) = true):∃ code,rcO = some code ∧
    Run X (evT X) 50 0 code (rcFr f n) [some (vaO v),some (tyO t)] ⟨.normal,rcFr f n ++ [(81,.bool (c81 v))],[some (vaO v),some (tyO t)]⟩:=by
  refine ⟨_,rfl,?_⟩
  unfold c81
  have hW:=fun H xo yo=>eqWh v.w {} H xo yo
  have hb0:=bdW0
  generalize decide (v.w = {}) = wz at *
  simp only [Wh.pay,Int.cast_ofNat_Int] at hW
  by_cases a0:v.i = 0
  case neg =>
    have e0:(v.i != 0) = true:=by simpa using a0
    (refine ⟨0,?_⟩;simp (maxSteps:=2000000) -implicitDefEqProofs [-getElem?_pos,go_sem,eqV,plen,-eqV,rcFr,vaO,tyO,Va.pay,mkWh,hb0,hW,strOp,k1,k2,k3,k4,k5,k6,k7,e0])
  by_cases a1:v.b = 0
  case neg =>
    have e1:((v.b:Int) != 0) = true:=by simpa using a1
    (refine ⟨0,?_⟩;simp (maxSteps:=2000000) -implicitDefEqProofs [-getElem?_pos,go_sem,eqV,plen,-eqV,rcFr,vaO,tyO,Va.pay,mkWh,hb0,hW,strOp,k1,k2,k3,k4,k5,k6,k7,a0,e1])
  by_cases a2:v.t = []
  case neg =>
    have e2:(v.t == []) = false:=by simpa using a2
    (refine ⟨0,?_⟩;simp (maxSteps:=2000000) -implicitDefEqProofs [-getElem?_pos,go_sem,eqV,plen,-eqV,rcFr,vaO,tyO,Va.pay,mkWh,hb0,hW,strOp,k1,k2,k3,k4,k5,k6,k7,a0,a1,e2])
  (refine ⟨0,?_⟩;simp (maxSteps:=2000000) -implicitDefEqProofs [-getElem?_pos,go_sem,eqV,plen,-eqV,rcFr,vaO,tyO,Va.pay,mkWh,hb0,hW,strOp,k1,k2,k3,k4,k5,k6,k7,a0,a1,a2])
theorem c81_code (v:Va) (t:Ty) (f:Bool) (n:Nat):∃ code,rcO = some code ∧
    Run X (evT X) 50 0 code (rcFr f n) [some (vaO v),some (tyO t)] ⟨.normal,rcFr f n ++ [(81,.bool (c81 v))],[some (vaO v),some (tyO t)]⟩:=by
  by_cases k1:v.k = 1
  · exact c81_1 v t f n k1
  by_cases k2:v.k = 2
  · exact c81_2 v t f n k2
  by_cases k3:v.k = 3
  · exact c81_3 v t f n k3
  by_cases k4:v.k = 4
  · exact c81_4 v t f n k4
  by_cases k5:v.k = 5
  · exact c81_5 v t f n k5
  by_cases k6:v.k = 6
  · exact c81_6 v t f n k6
  by_cases k7:v.k = 7
  · exact c81_7 v t f n k7
  exact c81_o v t f n (by simpa using k1) (by simpa using k2) (by simpa using k3) (by simpa using k4) (by simpa using k5) (by simpa using k6) (by simpa using k7)
end Go.Proofs.YtafdnpcamepbmaaGreatDoor
namespace Go.Proofs.YtafdnpcamepbmaaGreatDoor
open Go.AM
def rbk (v:Va) (n tt:Nat):Bool :=
  if v.k = 1 then !(okI v.i n) else if v.k = 2∨v.k = 3∨v.k = 4 then !(okB v.b n) else if v.k = 5∨v.k = 6 then !(fin v.w tt) else if v.k = 7 then decide (16777216 < v.t.length) else false
def bad0 (v:Va) (k:Int):Bool:=decide (k < 0) || ((v.k != 0) && (v.k != k))
def rchkV (v:Va) (t:Ty):Int:=if bad0 v (kindN t.t t.u) || c81 v then 2 else if rbk v (rsizeN t.t) t.t then 2 else 0
noncomputable def rckO:Option Code:=(((((((Tryz.f50.body).bind cR).bind cR).bind cR).bind cR).bind cR).bind cR).bind cL
def r8Fr (n:Nat):AM.Frame:=[(2,.ptr 0 0 0 0),(3,.ptr 1 0 0 0),(6,.bool false),(7,.int .u64 (n:Nat)),(82,.bool false)]
def rckP (v:Va) (t:Ty) (n:Nat) (fr:AM.Frame) (H:AM.Heap):Prop:=H = [some (vaO v),some (tyO t)]∧getF fr 6 = .bool (rbk v n t.t)∧∃ f,fr = [(6,.bool f)]∨fr = [(2,.ptr 0 0 0 0),(6,.bool f),(127,.bool false)]
theorem rck1 (v:Va) (t:Ty) (n:Nat) (hn:n = 1∨n = 2∨n = 4∨n = 8) (k1:v.k = 1):∃ code,rckO = some code ∧
    Tells (Goes (rckP v t n)) X (evT X) 50 0 code (r8Fr (8 * n)) [some (vaO v),some (tyO t)]:=by
  refine ⟨_,rfl,?_⟩
  unfold rckP rbk
  rw [if_pos k1]
  unfold okI
  rcases hn with rfl | rfl | rfl | rfl
  · by_cases a:v.i < -128
    · refine Tells.of (o:=⟨.normal,[(6,.bool true)],[some (vaO v),some (tyO t)]⟩) ⟨0,?_⟩ ⟨rfl,rfl,by simp [getF];omega,_,.inl rfl⟩
      simp (maxSteps:=2000000) -implicitDefEqProofs [-getElem?_pos,go_sem,eqV,plen,vaO,tyO,Va.pay,r8Fr,k1,a,show IntKind.u64.bits = 64 from rfl,show IntKind.i64.bits = 64 from rfl,show IntKind.u64.wrap 7 = 7 from rfl,show IntKind.i64.wrap (-128) = -128 from rfl,show IntKind.i64.wrap 128 = 128 from rfl]
    by_cases b:128≤v.i
    · refine Tells.of (o:=⟨.normal,[(6,.bool true)],[some (vaO v),some (tyO t)]⟩) ⟨0,?_⟩ ⟨rfl,rfl,by simp [getF];omega,_,.inl rfl⟩
      simp (maxSteps:=2000000) -implicitDefEqProofs [-getElem?_pos,go_sem,eqV,plen,vaO,tyO,Va.pay,r8Fr,k1,a,b,show IntKind.u64.bits = 64 from rfl,show IntKind.i64.bits = 64 from rfl,show IntKind.u64.wrap 7 = 7 from rfl,show IntKind.i64.wrap (-128) = -128 from rfl,show IntKind.i64.wrap 128 = 128 from rfl]
    refine Tells.of (o:=⟨.normal,[(6,.bool false)],[some (vaO v),some (tyO t)]⟩) ⟨0,?_⟩ ⟨rfl,rfl,by simp [getF];omega,_,.inl rfl⟩
    simp (maxSteps:=2000000) -implicitDefEqProofs [-getElem?_pos,go_sem,eqV,plen,vaO,tyO,Va.pay,r8Fr,k1,a,b,show IntKind.u64.bits = 64 from rfl,show IntKind.i64.bits = 64 from rfl,show IntKind.u64.wrap 7 = 7 from rfl,show IntKind.i64.wrap (-128) = -128 from rfl,show IntKind.i64.wrap 128 = 128 from rfl]
  · by_cases a:v.i < -32768
    · refine Tells.of (o:=⟨.normal,[(6,.bool true)],[some (vaO v),some (tyO t)]⟩) ⟨0,?_⟩ ⟨rfl,rfl,by simp [getF];omega,_,.inl rfl⟩
      simp (maxSteps:=2000000) -implicitDefEqProofs [-getElem?_pos,go_sem,eqV,plen,vaO,tyO,Va.pay,r8Fr,k1,a,show IntKind.u64.bits = 64 from rfl,show IntKind.i64.bits = 64 from rfl,show IntKind.u64.wrap 15 = 15 from rfl,show IntKind.i64.wrap (-32768) = -32768 from rfl,show IntKind.i64.wrap 32768 = 32768 from rfl]
    by_cases b:32768≤v.i
    · refine Tells.of (o:=⟨.normal,[(6,.bool true)],[some (vaO v),some (tyO t)]⟩) ⟨0,?_⟩ ⟨rfl,rfl,by simp [getF];omega,_,.inl rfl⟩
      simp (maxSteps:=2000000) -implicitDefEqProofs [-getElem?_pos,go_sem,eqV,plen,vaO,tyO,Va.pay,r8Fr,k1,a,b,show IntKind.u64.bits = 64 from rfl,show IntKind.i64.bits = 64 from rfl,show IntKind.u64.wrap 15 = 15 from rfl,show IntKind.i64.wrap (-32768) = -32768 from rfl,show IntKind.i64.wrap 32768 = 32768 from rfl]
    refine Tells.of (o:=⟨.normal,[(6,.bool false)],[some (vaO v),some (tyO t)]⟩) ⟨0,?_⟩ ⟨rfl,rfl,by simp [getF];omega,_,.inl rfl⟩
    simp (maxSteps:=2000000) -implicitDefEqProofs [-getElem?_pos,go_sem,eqV,plen,vaO,tyO,Va.pay,r8Fr,k1,a,b,show IntKind.u64.bits = 64 from rfl,show IntKind.i64.bits = 64 from rfl,show IntKind.u64.wrap 15 = 15 from rfl,show IntKind.i64.wrap (-32768) = -32768 from rfl,show IntKind.i64.wrap 32768 = 32768 from rfl]
  · by_cases a:v.i < -2147483648
    · refine Tells.of (o:=⟨.normal,[(6,.bool true)],[some (vaO v),some (tyO t)]⟩) ⟨0,?_⟩ ⟨rfl,rfl,by simp [getF];omega,_,.inl rfl⟩
      simp (maxSteps:=2000000) -implicitDefEqProofs [-getElem?_pos,go_sem,eqV,plen,vaO,tyO,Va.pay,r8Fr,k1,a,show IntKind.u64.bits = 64 from rfl,show IntKind.i64.bits = 64 from rfl,show IntKind.u64.wrap 31 = 31 from rfl,show IntKind.i64.wrap (-2147483648) = -2147483648 from rfl,show IntKind.i64.wrap 2147483648 = 2147483648 from rfl]
    by_cases b:2147483648≤v.i
    · refine Tells.of (o:=⟨.normal,[(6,.bool true)],[some (vaO v),some (tyO t)]⟩) ⟨0,?_⟩ ⟨rfl,rfl,by simp [getF];omega,_,.inl rfl⟩
      simp (maxSteps:=2000000) -implicitDefEqProofs [-getElem?_pos,go_sem,eqV,plen,vaO,tyO,Va.pay,r8Fr,k1,a,b,show IntKind.u64.bits = 64 from rfl,show IntKind.i64.bits = 64 from rfl,show IntKind.u64.wrap 31 = 31 from rfl,show IntKind.i64.wrap (-2147483648) = -2147483648 from rfl,show IntKind.i64.wrap 2147483648 = 2147483648 from rfl]
    refine Tells.of (o:=⟨.normal,[(6,.bool false)],[some (vaO v),some (tyO t)]⟩) ⟨0,?_⟩ ⟨rfl,rfl,by simp [getF];omega,_,.inl rfl⟩
    simp (maxSteps:=2000000) -implicitDefEqProofs [-getElem?_pos,go_sem,eqV,plen,vaO,tyO,Va.pay,r8Fr,k1,a,b,show IntKind.u64.bits = 64 from rfl,show IntKind.i64.bits = 64 from rfl,show IntKind.u64.wrap 31 = 31 from rfl,show IntKind.i64.wrap (-2147483648) = -2147483648 from rfl,show IntKind.i64.wrap 2147483648 = 2147483648 from rfl]
  · refine Tells.of (o:=⟨.normal,[(6,.bool false)],[some (vaO v),some (tyO t)]⟩) ⟨0,?_⟩ ⟨rfl,rfl,by simp [getF],_,.inl rfl⟩
    simp (maxSteps:=2000000) -implicitDefEqProofs [-getElem?_pos,go_sem,eqV,plen,vaO,tyO,Va.pay,r8Fr,k1]
theorem rckB (v:Va) (t:Ty) (n:Nat) (kk:Int) (hkk:kk = 2∨kk = 3∨kk = 4) (hn:n = 1∨n = 2∨n = 4∨n = 8) (kv:v.k = kk):∃ code,rckO = some code ∧
    Tells (Goes (rckP v t n)) X (evT X) 50 0 code (r8Fr (8 * n)) [some (vaO v),some (tyO t)]:=by
  refine ⟨_,rfl,?_⟩
  unfold rckP rbk
  rw [if_neg (by omega),if_pos (by omega)]
  unfold okB
  have hd:∀ B:Nat,Int.fdiv (v.b:Int) (B:Int) = ((v.b / B:Nat):Int):=fun B=>by
    rw [Int.fdiv_eq_ediv_of_nonneg _ (Int.natCast_nonneg _)];exact (Int.natCast_ediv _ _).symm
  rcases hn with rfl | rfl | rfl | rfl
  · have hd:=hd 256
    have e1:(!(decide (8≤1) || decide (v.b < 2 ^ (8 * 1)))) = (((v.b / 256:Nat):Int) != 0):=by rw [Bool.eq_iff_iff];simp;omega
    generalize (((v.b / 256:Nat):Int)) = q at *
    generalize hq:(q != 0) = qb at *
    refine Tells.of (o:=⟨.normal,[(6,.bool qb)],[some (vaO v),some (tyO t)]⟩) ⟨0,?_⟩ ⟨rfl,rfl,by rw [e1];rfl,_,.inl rfl⟩
    simp only [Int.cast_ofNat_Int] at hd
    rcases hkk with rfl | rfl | rfl
    · simp (maxSteps:=2000000) -implicitDefEqProofs [-getElem?_pos,go_sem,eqV,plen,vaO,tyO,Va.pay,r8Fr,kv,hd,hq,show IntKind.u64.bits = 64 from rfl]
    · simp (maxSteps:=2000000) -implicitDefEqProofs [-getElem?_pos,go_sem,eqV,plen,vaO,tyO,Va.pay,r8Fr,kv,hd,hq,show IntKind.u64.bits = 64 from rfl]
    · simp (maxSteps:=2000000) -implicitDefEqProofs [-getElem?_pos,go_sem,eqV,plen,vaO,tyO,Va.pay,r8Fr,kv,hd,hq,show IntKind.u64.bits = 64 from rfl]
  · have hd:=hd 65536
    have e1:(!(decide (8≤2) || decide (v.b < 2 ^ (8 * 2)))) = (((v.b / 65536:Nat):Int) != 0):=by rw [Bool.eq_iff_iff];simp;omega
    generalize (((v.b / 65536:Nat):Int)) = q at *
    generalize hq:(q != 0) = qb at *
    refine Tells.of (o:=⟨.normal,[(6,.bool qb)],[some (vaO v),some (tyO t)]⟩) ⟨0,?_⟩ ⟨rfl,rfl,by rw [e1];rfl,_,.inl rfl⟩
    simp only [Int.cast_ofNat_Int] at hd
    rcases hkk with rfl | rfl | rfl
    · simp (maxSteps:=2000000) -implicitDefEqProofs [-getElem?_pos,go_sem,eqV,plen,vaO,tyO,Va.pay,r8Fr,kv,hd,hq,show IntKind.u64.bits = 64 from rfl]
    · simp (maxSteps:=2000000) -implicitDefEqProofs [-getElem?_pos,go_sem,eqV,plen,vaO,tyO,Va.pay,r8Fr,kv,hd,hq,show IntKind.u64.bits = 64 from rfl]
    · simp (maxSteps:=2000000) -implicitDefEqProofs [-getElem?_pos,go_sem,eqV,plen,vaO,tyO,Va.pay,r8Fr,kv,hd,hq,show IntKind.u64.bits = 64 from rfl]
  · have hd:=hd 4294967296
    have e1:(!(decide (8≤4) || decide (v.b < 2 ^ (8 * 4)))) = (((v.b / 4294967296:Nat):Int) != 0):=by rw [Bool.eq_iff_iff];simp;omega
    generalize (((v.b / 4294967296:Nat):Int)) = q at *
    generalize hq:(q != 0) = qb at *
    refine Tells.of (o:=⟨.normal,[(6,.bool qb)],[some (vaO v),some (tyO t)]⟩) ⟨0,?_⟩ ⟨rfl,rfl,by rw [e1];rfl,_,.inl rfl⟩
    simp only [Int.cast_ofNat_Int] at hd
    rcases hkk with rfl | rfl | rfl
    · simp (maxSteps:=2000000) -implicitDefEqProofs [-getElem?_pos,go_sem,eqV,plen,vaO,tyO,Va.pay,r8Fr,kv,hd,hq,show IntKind.u64.bits = 64 from rfl]
    · simp (maxSteps:=2000000) -implicitDefEqProofs [-getElem?_pos,go_sem,eqV,plen,vaO,tyO,Va.pay,r8Fr,kv,hd,hq,show IntKind.u64.bits = 64 from rfl]
    · simp (maxSteps:=2000000) -implicitDefEqProofs [-getElem?_pos,go_sem,eqV,plen,vaO,tyO,Va.pay,r8Fr,kv,hd,hq,show IntKind.u64.bits = 64 from rfl]
  · refine Tells.of (o:=⟨.normal,[(6,.bool false)],[some (vaO v),some (tyO t)]⟩) ⟨0,?_⟩ ⟨rfl,rfl,by simp [getF],_,.inl rfl⟩
    rcases hkk with rfl | rfl | rfl
    · simp (maxSteps:=2000000) -implicitDefEqProofs [-getElem?_pos,go_sem,eqV,plen,vaO,tyO,Va.pay,r8Fr,kv]
    · simp (maxSteps:=2000000) -implicitDefEqProofs [-getElem?_pos,go_sem,eqV,plen,vaO,tyO,Va.pay,r8Fr,kv]
    · simp (maxSteps:=2000000) -implicitDefEqProofs [-getElem?_pos,go_sem,eqV,plen,vaO,tyO,Va.pay,r8Fr,kv]
theorem rckR (v:Va) (t:Ty) (n:Nat) (hF:evT X 70 [.agg v.w.pay,.int .u8 (t.t:Nat)] [some (vaO v),some (tyO t)] = some (.bool (fin v.w t.t),[some (vaO v),some (tyO t)])) (h:v.k = 0∨v.k = 5∨v.k = 6∨v.k = 7):∃ code,rckO = some code ∧
    Tells (Goes (rckP v t n)) X (evT X) 50 0 code (r8Fr (8 * n)) [some (vaO v),some (tyO t)]:=by
  refine ⟨_,rfl,?_⟩
  unfold rckP rbk
  rw [if_neg (by omega),if_neg (by omega)]
  generalize 8 * n = n8 at *
  rcases h with kv | kv | kv | kv
  · rw [if_neg (by omega),if_neg (by omega)]
    refine Tells.of (o:=⟨.normal,[(2,.ptr 0 0 0 0),(6,.bool false),(127,.bool false)],[some (vaO v),some (tyO t)]⟩) ⟨0,?_⟩ ⟨rfl,rfl,rfl,_,.inr rfl⟩
    simp (maxSteps:=2000000) -implicitDefEqProofs [-getElem?_pos,go_sem,eqV,plen,vaO,tyO,Va.pay,r8Fr,kv]
  · rw [if_pos (by omega)]
    simp only [vaO,tyO,Va.pay,Ty.pay,Wh.pay] at hF
    rw [kv] at hF
    generalize fin v.w t.t = fb at *
    refine Tells.of (o:=⟨.normal,[(6,.bool (!fb))],[some (vaO v),some (tyO t)]⟩) ⟨0,?_⟩ ⟨rfl,rfl,rfl,_,.inl rfl⟩
    simp (maxSteps:=2000000) -implicitDefEqProofs [-getElem?_pos,go_sem,eqV,plen,vaO,tyO,Va.pay,Ty.pay,r8Fr,kv,mkWh,hF,unV]
  · rw [if_pos (by omega)]
    simp only [vaO,tyO,Va.pay,Ty.pay,Wh.pay] at hF
    rw [kv] at hF
    generalize fin v.w t.t = fb at *
    refine Tells.of (o:=⟨.normal,[(6,.bool (!fb))],[some (vaO v),some (tyO t)]⟩) ⟨0,?_⟩ ⟨rfl,rfl,rfl,_,.inl rfl⟩
    simp (maxSteps:=2000000) -implicitDefEqProofs [-getElem?_pos,go_sem,eqV,plen,vaO,tyO,Va.pay,Ty.pay,r8Fr,kv,mkWh,hF,unV]
  · rw [if_neg (by omega),if_pos kv]
    have hl:decide ((16777216:Int) < (v.t.length:Int)) = decide (16777216 < v.t.length):=by rw [decide_eq_decide];omega
    generalize decide (16777216 < v.t.length) = lb at *
    refine Tells.of (o:=⟨.normal,[(6,.bool lb)],[some (vaO v),some (tyO t)]⟩) ⟨0,?_⟩ ⟨rfl,rfl,rfl,_,.inl rfl⟩
    simp (maxSteps:=2000000) -implicitDefEqProofs [-getElem?_pos,go_sem,eqV,plen,vaO,tyO,Va.pay,r8Fr,kv,hl]
end Go.Proofs.YtafdnpcamepbmaaGreatDoor
namespace Go.Proofs.YtafdnpcamepbmaaGreatDoor
open Go.AM
section
variable (v:Va) (t:Ty)
theorem rcheck_code (ht:t.t < 256):∃ code,Tryz.f50.body = some code ∧
    Tells (Rets fun fr H=>getF fr 4 = .int .i64 (rchkV v t)) X (evT X) 50 0 code [(0,.agg v.pay),(1,.agg t.pay)] []:=by
  refine ⟨_,rfl,?_⟩
  have hK:=rkind_ev ht [some (vaO v),some (tyO t)]
  have hS:=rsize_ev' ht [some (vaO v),some (tyO t)]
  have hF:=rfin_ev v.w ht [some (vaO v),some (tyO t)]
  have hbd:=kind_bd t.t t.u
  have hn:=rsz t.t
  unfold rchkV
  apply Tells.seq (fr':=[(2,.ptr 0 0 0 0),(3,.ptr 1 0 0 0)]) (H':=[some (vaO v),some (tyO t)])
  · (refine ⟨0,?_⟩;simp (maxSteps:=2000000) -implicitDefEqProofs [-getElem?_pos,go_sem,eqV,plen,vaO,tyO,Va.pay,Ty.pay])
  apply Tells.seq (fr':=[(2,.ptr 0 0 0 0),(3,.ptr 1 0 0 0),(5,.int .i64 (kindN t.t t.u))]) (H':=[some (vaO v),some (tyO t)])
  · clear hS hF
    simp only [vaO,tyO,Va.pay,Ty.pay] at hK
    generalize kindN t.t t.u = k at *
    (refine ⟨0,?_⟩;simp (maxSteps:=2000000) -implicitDefEqProofs [-getElem?_pos,go_sem,eqV,plen,vaO,tyO,Va.pay,Ty.pay,mkTy,hK])
  clear hK
  generalize kindN t.t t.u = k at *
  apply Tells.seq (fr':=[(2,.ptr 0 0 0 0),(3,.ptr 1 0 0 0),(6,.bool (bad0 v k))]) (H':=[some (vaO v),some (tyO t)])
  · unfold bad0
    by_cases h1:k < 0
    · (refine ⟨0,?_⟩;simp (maxSteps:=2000000) -implicitDefEqProofs [-getElem?_pos,go_sem,eqV,plen,vaO,tyO,Va.pay,h1])
    by_cases h2:v.k = 0
    · (refine ⟨0,?_⟩;simp (maxSteps:=2000000) -implicitDefEqProofs [-getElem?_pos,go_sem,eqV,plen,vaO,tyO,Va.pay,h1,h2])
    have h2b:(v.k != 0) = true:=by simpa using h2
    generalize hq:(v.k != k) = q at *
    (refine ⟨0,?_⟩;simp (maxSteps:=2000000) -implicitDefEqProofs [-getElem?_pos,go_sem,eqV,plen,vaO,tyO,Va.pay,h1,h2b,hq])
  have hq:bad0 v k = false→v.k = 0∨v.k = 1∨v.k = 2∨v.k = 3∨v.k = 4∨v.k = 5∨v.k = 6∨v.k = 7:=by
    unfold bad0
    intro h
    simp only [Bool.or_eq_false_iff,Bool.and_eq_false_iff,bne_eq_false_iff_eq,decide_eq_false_iff_not] at h
    omega
  generalize bad0 v k = bd at *
  generalize rsizeN t.t = n at *
  have w8:IntKind.i64.wrap (8 * (n:Int)) = ((8 * n:Nat):Int):=by rw [wrap_i64 (by omega) (by omega)];omega
  have w9:IntKind.u64.wrap ((8 * n:Nat):Int) = ((8 * n:Nat):Int):=wrap_u64 (by omega) (by omega)
  apply Tells.seq (fr':=rcFr bd (8 * n)) (H':=[some (vaO v),some (tyO t)])
  · simp only [vaO,tyO,Va.pay,Ty.pay] at hS
    generalize 8 * n = n8 at *
    (refine ⟨0,?_⟩;simp (maxSteps:=2000000) -implicitDefEqProofs [-getElem?_pos,go_sem,eqV,plen,vaO,tyO,Va.pay,Ty.pay,hS,w8,w9,rcFr])
  clear hS
  apply Tells.assoc
  apply Tells.seq (fr':=rcFr bd (8 * n) ++ [(81,.bool (c81 v))]) (H':=[some (vaO v),some (tyO t)])
  · exact pieceT (c81_code v t bd (8 * n)) _ rfl
  generalize c81 v = cc at *
  apply Tells.andThen (P:=fun fr H=>H = [some (vaO v),some (tyO t)]∧∃ tl,fr = rcFr (bd || cc) (8 * n) ++ tl)
  · generalize 8 * n = n8 at *
    cases cc with
    | true =>
      refine Tells.of (o:=⟨.normal,rcFr true n8,[some (vaO v),some (tyO t)]⟩) ⟨0,?_⟩ ⟨rfl,rfl,[],by simp [rcFr]⟩
      simp (maxSteps:=2000000) -implicitDefEqProofs [-getElem?_pos,go_sem,eqV,plen,rcFr]
    | false =>
      refine Tells.of (o:=⟨.normal,rcFr bd n8 ++ [(81,.bool false)],[some (vaO v),some (tyO t)]⟩) ⟨0,?_⟩ ⟨rfl,rfl,[(81,.bool false)],by simp⟩
      simp (maxSteps:=2000000) -implicitDefEqProofs [-getElem?_pos,go_sem,eqV,plen,rcFr]
  rintro fr H ⟨rfl,tl,rfl⟩
  generalize hbc:(bd || cc) = b1 at *
  cases b1 with
  | true =>
    generalize 8 * n = n8 at *
    refine Tells.of (o:=⟨.ret,[(4,.int .i64 2)],[some (vaO v),some (tyO t)]⟩) ?_ ⟨rfl,rfl⟩
    apply Run.seq_out (hne:=by simp)
    refine ⟨0,?_⟩
    simp (maxSteps:=2000000) -implicitDefEqProofs [-getElem?_pos,go_sem,eqV,plen,rcFr]
  | false =>
  apply Tells.seq (fr':=r8Fr (8 * n)) (H':=[some (vaO v),some (tyO t)])
  · generalize 8 * n = n8 at *
    (refine ⟨0,?_⟩;simp (maxSteps:=2000000) -implicitDefEqProofs [-getElem?_pos,go_sem,eqV,plen,rcFr,r8Fr])
  have hbd0:bd = false:=by
    cases bd with
    | false=>rfl
    | true=>simp at hbc
  have hv:=hq hbd0
  have main:∃ code,rckO = some code∧Tells (Goes (rckP v t n)) X (evT X) 50 0 code (r8Fr (8 * n)) [some (vaO v),some (tyO t)]:=by
    rcases hv with h | h | h | h | h | h | h | h
    · exact rckR v t n hF (.inl h)
    · exact rck1 v t n hn h
    · exact rckB v t n 2 (.inl rfl) hn h
    · exact rckB v t n 3 (.inr (.inl rfl)) hn h
    · exact rckB v t n 4 (.inr (.inr rfl)) hn h
    · exact rckR v t n hF (.inr (.inl h))
    · exact rckR v t n hF (.inr (.inr (.inl h)))
    · exact rckR v t n hF (.inr (.inr (.inr h)))
  apply Tells.andThen (P:=rckP v t n)
  · exact pieceT main _ rfl
  rintro fr H ⟨rfl,h6,f,hfr⟩
  have hf:f = rbk v n t.t:=by
    rcases hfr with rfl | rfl
    · simpa [getF] using h6
    · simpa [getF] using h6
  subst hf
  generalize rbk v n t.t = f at *
  cases f with
  | true =>
    refine Tells.of (o:=⟨.ret,[(4,.int .i64 2)],[some (vaO v),some (tyO t)]⟩) ⟨0,?_⟩ ⟨rfl,rfl⟩
    rcases hfr with rfl | rfl
    · simp (maxSteps:=2000000) -implicitDefEqProofs [-getElem?_pos,go_sem,eqV,plen]
    · simp (maxSteps:=2000000) -implicitDefEqProofs [-getElem?_pos,go_sem,eqV,plen]
  | false =>
    refine Tells.of (o:=⟨.ret,[(4,.int .i64 0)],[some (vaO v),some (tyO t)]⟩) ⟨0,?_⟩ ⟨rfl,rfl⟩
    rcases hfr with rfl | rfl
    · simp (maxSteps:=2000000) -implicitDefEqProofs [-getElem?_pos,go_sem,eqV,plen]
    · simp (maxSteps:=2000000) -implicitDefEqProofs [-getElem?_pos,go_sem,eqV,plen]
end
theorem c81_iff (v:Va):c81 v = false ↔ (v.k = 1∨v.i = 0)∧(v.k = 2∨v.k = 3∨v.k = 4∨v.b = 0)∧(v.k = 7∨v.t = [])∧(v.k = 5∨v.k = 6∨v.w = {}):=by
  unfold c81
  simp only [Bool.or_eq_false_iff,Bool.and_eq_false_iff,bne_eq_false_iff_eq,Bool.not_eq_false',beq_iff_eq,decide_eq_true_eq]
  constructor
  · rintro ⟨⟨⟨h1,h2⟩,h3⟩,h4⟩
    refine ⟨h1,?_,h3,?_⟩
    · rcases h2 with h2 | h2
      · rcases h2 with (h2 | h2) | h2
        · exact .inl h2
        · exact .inr (.inl h2)
        · exact .inr (.inr (.inl h2))
      · exact .inr (.inr (.inr (by omega)))
    · rcases h4 with h4 | h4
      · rcases h4 with h4 | h4
        · exact .inl h4
        · exact .inr (.inl h4)
      · exact .inr (.inr h4)
  · rintro ⟨h1,h2,h3,h4⟩
    refine ⟨⟨⟨h1,?_⟩,h3⟩,?_⟩
    · rcases h2 with h2 | h2 | h2 | h2
      · exact .inl (.inl (.inl h2))
      · exact .inl (.inl (.inr h2))
      · exact .inl (.inr h2)
      · exact .inr (by rw [h2];rfl)
    · rcases h4 with h4 | h4 | h4
      · exact .inl (.inl h4)
      · exact .inl (.inr h4)
      · exact .inr h4
theorem both_chk (v:Va) (t:Ty):rchkV v t = chkV v t:=by
  unfold rchkV chkV okVa
  have hbd:=kind_bd t.t t.u
  have hsz:=size_num (t:=t.t) (u:=t.u)
  have hrs:=rsize_eq (t:=t.t)
  generalize kindN t.t t.u = k at *
  by_cases hk:k < 0
  · have:bad0 v k = true:=by unfold bad0;simp [hk]
    rw [this,if_pos hk,if_pos (by simp)]
  rw [if_neg hk]
  have hb0:bad0 v k = decide (v.k ≠ 0∧v.k ≠ k):=by
    unfold bad0
    rw [Bool.eq_iff_iff];simp;omega
  rw [hb0]
  by_cases hz:v = {}
  · subst hz
    rw [if_pos rfl]
    have h1:c81 ({}:Va) = false:=by decide
    have h2:∀ n tt,rbk ({}:Va) n tt = false:=fun n tt=>by unfold rbk;simp
    rw [h1,h2]
    simp
  rw [if_neg hz]
  cases hc:c81 v with
  | true =>
    rw [if_pos (by simp)]
    -- something stands where nothing may
    have hno:∀ p,c81 v ≠ false→¬ p→p = p→okVk v k (sizeN t.t) t.t = okVk v k (sizeN t.t) t.t:=fun _ _ _ _=>rfl
    clear hno
    have hok:okVk v k (sizeN t.t) t.t = false:=by
      have hne:¬ c81 v = false:=by rw [hc];simp
      rw [c81_iff] at hne
      unfold okVk
      by_cases k1:v.k = 1
      · rw [if_pos k1]
        have:decide (v = { k:=1,i:=v.i }) = false:=by
          rw [decide_eq_false_iff_not]
          intro h
          apply hne
          rw [h]
          exact ⟨.inl rfl,.inr (.inr (.inr rfl)),.inr rfl,.inr (.inr rfl)⟩
        rw [this];simp
      rw [if_neg k1]
      by_cases k2:v.k = 2∨v.k = 3∨v.k = 4
      · rw [if_pos k2]
        have:decide (v = { k:=v.k,b:=v.b }) = false:=by
          rw [decide_eq_false_iff_not]
          intro h
          apply hne
          have h3:v.i = 0:=by rw [h]
          have h4:v.t = []:=by rw [h]
          have h5:v.w = {}:=by rw [h]
          refine ⟨.inr h3,?_,.inr h4,.inr (.inr h5)⟩
          rcases k2 with k2 | k2 | k2
          · exact .inl k2
          · exact .inr (.inl k2)
          · exact .inr (.inr (.inl k2))
        rw [this];simp
      rw [if_neg k2]
      by_cases k5:v.k = 5∨v.k = 6
      · rw [if_pos k5]
        have:decide (v = { k:=v.k,w:=v.w }) = false:=by
          rw [decide_eq_false_iff_not]
          intro h
          apply hne
          have h3:v.i = 0:=by rw [h]
          have h4:v.t = []:=by rw [h]
          have h5:v.b = 0:=by rw [h]
          refine ⟨.inr h3,.inr (.inr (.inr h5)),.inr h4,?_⟩
          rcases k5 with k5 | k5
          · exact .inl k5
          · exact .inr (.inl k5)
        rw [this];simp
      rw [if_neg k5]
      by_cases k7:v.k = 7
      · rw [if_pos k7]
        have:decide (v = { k:=7,t:=v.t }) = false:=by
          rw [decide_eq_false_iff_not]
          intro h
          apply hne
          have h3:v.i = 0:=by rw [h]
          have h4:v.b = 0:=by rw [h]
          have h5:v.w = {}:=by rw [h]
          exact ⟨.inr h3,.inr (.inr (.inr h4)),.inl k7,.inr (.inr h5)⟩
        rw [this];simp
      rw [if_neg k7]
    rw [hok];rfl
  | false =>
    obtain ⟨c1,c2,c3,c4⟩:=(c81_iff v).1 hc
    obtain ⟨vk,vi,vb,vt,vw⟩:=v
    simp only at *
    unfold okVk rbk
    simp only
    by_cases k1:vk = 1
    · subst k1
      have e1:vb = 0:=by omega
      have e2:vt = []:=by rcases c3 with h | h;exact absurd h (by decide);exact h
      have e3:vw = {}:=by rcases c4 with h | h | h;exact absurd h (by decide);exact absurd h (by decide);exact h
      subst e1 e2 e3
      by_cases hk1:k = 1
      · subst hk1
        rw [hrs (by have:=hsz (.inl rfl);omega)]
        cases okI vi (sizeN t.t) <;> simp
      · have:¬ (1:Int) = k:=by omega
        simp [hk1,this]
    by_cases k2:vk = 2∨vk = 3∨vk = 4
    · have e1:vi = 0:=by rcases c1 with h | h;exact absurd h k1;exact h
      have e2:vt = []:=by rcases c3 with h | h;omega;exact h
      have e3:vw = {}:=by rcases c4 with h | h | h;omega;omega;exact h
      subst e1 e2 e3
      have k0:vk ≠ 0:=by omega
      by_cases hk1:k = vk
      · subst hk1
        rw [hrs (by have:=hsz (by omega);omega)]
        cases okB vb (sizeN t.t) <;> simp [k1,k2]
      · have:¬ vk = k:=by omega
        simp [hk1,this,k1,k2,k0]
    by_cases k5:vk = 5∨vk = 6
    · have e1:vi = 0:=by rcases c1 with h | h;exact absurd h k1;exact h
      have e2:vt = []:=by rcases c3 with h | h;omega;exact h
      have e3:vb = 0:=by omega
      subst e1 e2 e3
      have k0:vk ≠ 0:=by omega
      by_cases hk1:k = vk
      · subst hk1
        cases fin vw t.t <;> simp [k1,k2,k5]
      · have:¬ vk = k:=by omega
        simp [hk1,this,k1,k2,k5,k0]
    by_cases k7:vk = 7
    · subst k7
      have e1:vi = 0:=by rcases c1 with h | h;exact absurd h k1;exact h
      have e2:vb = 0:=by omega
      have e3:vw = {}:=by rcases c4 with h | h | h;omega;omega;exact h
      subst e1 e2 e3
      by_cases hk1:k = 7
      · subst hk1
        by_cases hl:vt.length≤16777216
        · have:¬ 16777216 < vt.length:=by omega
          simp [hl,this]
        · have:16777216 < vt.length:=by omega
          simp [hl,this]
      · have:¬ (7:Int) = k:=by omega
        simp [hk1,this]
    have e1:vi = 0:=by rcases c1 with h | h;exact absurd h k1;exact h
    have e2:vt = []:=by rcases c3 with h | h;exact absurd h k7;exact h
    have e3:vb = 0:=by omega
    have e4:vw = {}:=by rcases c4 with h | h | h;omega;omega;exact h
    subst e1 e2 e3 e4
    have k0:vk ≠ 0:=by
      intro h;subst h;exact hz rfl
    have hkk:¬ vk = k:=by omega
    simp [k0,hkk,k1,k2,k5,k7]
theorem rcheck_ev {v:Va} {t:Ty} (ht:t.t < 256) (H:AM.Heap):evT X 50 [.agg v.pay,.agg t.pay] H = some (.int .i64 (chkV v t),H):=by
  obtain ⟨code,hcode,o,⟨he,h4⟩,hr⟩:=rcheck_code v t ht
  rw [both_chk] at h4
  exact evT_eq (Ev1.toldP (l:=[.int .i64 (chkV v t)]) (evT_below X) Tryz.func50 hcode (args_va (i:=0) (args_ty (i:=1) (args_nil 2))) (by simp [Va.pay,Ty.pay,idsL,ids]) (by simp [gtag]) rfl rfl rfl ⟨o,⟨he,by show some [getF o.fr 4] = _;rw [h4]⟩,hr⟩)
end Go.Proofs.YtafdnpcamepbmaaGreatDoor
namespace Go.Proofs.YtafdnpcamepbmaaGreatDoor
open Go.AM
section
variable (c:Nat) (b own:List UInt8) (w:Wh)
end
end Go.Proofs.YtafdnpcamepbmaaGreatDoor
namespace Go.Proofs.YtafdnpcamepbmaaGreatDoor
open Go.AM
section
variable (c:Nat) (b:List UInt8) (w:Wh)
end
end Go.Proofs.YtafdnpcamepbmaaGreatDoor
namespace Go.Proofs.YtafdnpcamepbmaaGreatDoor
open Go.AM
section
variable (c:Nat) (b:List UInt8) (v:Va) (t:Ty)
end
end Go.Proofs.YtafdnpcamepbmaaGreatDoor
