/- G1 to CN: texts of this claim, one behind the other; what each shows stands at its head. -/
import Derived.Test.YtafdnpcamepbmaaGreatDoorAm3
import Derived.Test.YtafdnpcamepbmaaGreatDoorMg0
set_option linter.unusedSimpArgs false
set_option linter.unusedVariables false
set_option maxRecDepth 100000
set_option maxHeartbeats 8000000
namespace Go.Proofs.YtafdnpcamepbmaaGreatDoor
open Go.AM
def leV:List UInt8→Nat
  | []=>0
  | b :: r=>b.toNat + 256 * leV r
def leB:Nat→Nat→List UInt8
  | 0,_=>[]
  | n + 1,x=>UInt8.ofNat (x % 256) :: leB n (x / 256)
theorem leB_len:∀ n x,(leB n x).length = n
  | 0,_=>rfl
  | n + 1,x=>by simp [leB,leB_len n]
theorem leV_lt:∀ l:List UInt8,leV l < 256 ^ l.length
  | []=>by simp [leV]
  | b :: r=>by
    have:=leV_lt r
    have:=b.toNat_lt
    simp only [leV,List.length_cons,Nat.pow_succ]
    omega
theorem leV_snoc (b:UInt8):∀ l:List UInt8,leV (l ++ [b]) = leV l + b.toNat * 256 ^ l.length
  | []=>by simp [leV]
  | c :: r=>by
    simp only [List.cons_append,leV,leV_snoc b r,List.length_cons,Nat.pow_succ,Nat.mul_add]
    rw [Nat.mul_comm (256 ^ r.length) 256,← Nat.mul_assoc,← Nat.mul_assoc,Nat.mul_comm 256 b.toNat]
    omega
theorem leB_snoc:∀ n x,leB (n + 1) x = leB n x ++ [UInt8.ofNat (x / 256 ^ n % 256)]
  | 0,x=>by simp [leB]
  | n + 1,x=>by
    rw [leB,leB_snoc n (x / 256),leB]
    simp only [List.cons_append]
    rw [Nat.div_div_eq_div_mul,Nat.pow_succ,Nat.mul_comm]
theorem pow256 (i:Nat):(256:Nat) ^ i = 2 ^ (8 * i):=by rw [Nat.pow_mul]
theorem or_le {x y i:Nat} (hx:x < 256 ^ i) (hy:y < 256) (hi:i < 8) :
    IntKind.u64.wrap ((AM.bits .u64 (x:Int) ||| AM.bits .u64 (IntKind.u64.wrap ((y:Int) * 2 ^ (8 * i)))).toNat:Nat) = ((x + y * 256 ^ i:Nat):Int):=by
  have hp:(256:Nat) ^ i≤256 ^ 7:=Nat.pow_le_pow_right (by omega) (by omega)
  have hm:y * 256 ^ i≤255 * 256 ^ 7:=Nat.mul_le_mul (by omega) hp
  have hpi:((y:Int) * 2 ^ (8 * i)) = ((y * 256 ^ i:Nat):Int):=by rw [pow256];simp
  have hxx:x < 18446744073709551616:=by omega
  rw [hpi,wrap_u64 (n:=((y * 256 ^ i:Nat):Int)) (by omega) (by omega)]
  have hb:∀ v:Nat,v < 18446744073709551616→(AM.bits .u64 (v:Int)).toNat = v:=by
    intro v hv
    unfold AM.bits
    simp [IntKind.bits]
    omega
  have e:(AM.bits .u64 (x:Int) ||| AM.bits .u64 ((y * 256 ^ i:Nat):Int)).toNat = x + y * 256 ^ i:=by
    rw [show (AM.bits .u64 (x:Int) ||| AM.bits .u64 ((y * 256 ^ i:Nat):Int)).toNat = (AM.bits .u64 (x:Int)).toNat ||| (AM.bits .u64 ((y * 256 ^ i:Nat):Int)).toNat by simp]
    rw [hb x hxx,hb _ (by omega),pow256,← Nat.shiftLeft_eq,Nat.or_comm,← Nat.shiftLeft_add_eq_or_of_lt (by rw [← pow256];exact hx),Nat.add_comm]
  rw [e,wrap_u64 (by omega) (by omega)]
theorem take_snoc {l:List UInt8} {i:Nat} {y:UInt8} (h:l[i]? = some y):l.take (i + 1) = l.take i ++ [y]:=by
  rw [List.take_add_one,h];rfl
def rfR (b:List UInt8) (n:Int):Int × Int :=
  if n < 1∨8 < n then (0,2) else if (b.length:Int) < n then (0,4) else ((leV (b.take n.toNat):Nat),0)
section
variable (T:Cf) (c:Nat) (b:List UInt8) (n:Nat)
def rfFr (i:Nat) (x:Nat):AM.Frame:=[(0,.ro c (.pb b) 1),(6,.int .u64 (x:Nat)),(18,.int .i64 (n:Nat)),(19,.int .i64 (i:Nat))]
theorem readFixed_code (n:Int) (hb:b.length < 9223372036854775808):∃ code,Tryz.f44.body = some code ∧
    Run X T 44 0 code [(0,.ro c (.pb b) 1),(1,.int .i64 n)] [] ⟨.ret,[(4,.int .u64 (rfR b n).1),(5,.int .i64 (rfR b n).2)],[]⟩:=by
  refine ⟨_,rfl,?_⟩
  unfold rfR
  by_cases h1:n < 1
  · rw [if_pos (.inl h1)]
    refine ⟨0,?_⟩
    simp (maxSteps:=2000000) -implicitDefEqProofs [-getElem?_pos,go_sem,eqV,plen,h1]
  by_cases h8:8 < n
  · rw [if_pos (.inr h8)]
    refine ⟨0,?_⟩
    simp (maxSteps:=2000000) -implicitDefEqProofs [-getElem?_pos,go_sem,eqV,plen,h1,h8]
  rw [if_neg (by omega)]
  by_cases hl:(b.length:Int) < n
  · rw [if_pos hl]
    refine ⟨0,?_⟩
    simp (maxSteps:=2000000) -implicitDefEqProofs [-getElem?_pos,go_sem,eqV,plen,h1,h8,hl]
  rw [if_neg hl]
  obtain ⟨n,rfl⟩:∃ m:Nat,n = (m:Int):=⟨n.toNat,by omega⟩
  rw [Int.toNat_natCast]
  apply Run.seq
  · (refine ⟨0,?_⟩;conv=>lhs;simp (maxSteps:=2000000) -implicitDefEqProofs [-getElem?_pos,go_sem,eqV,plen])
  apply Run.seq
  · (refine ⟨0,?_⟩;conv=>lhs;simp (maxSteps:=2000000) -implicitDefEqProofs [-getElem?_pos,go_sem,eqV,plen,h1,h8])
  apply Run.seq
  · (refine ⟨0,?_⟩;conv=>lhs;simp (maxSteps:=2000000) -implicitDefEqProofs [-getElem?_pos,go_sem,eqV,plen,hl])
  apply Run.seq
  · (refine ⟨0,?_⟩;conv=>lhs;simp (maxSteps:=2000000) -implicitDefEqProofs [-getElem?_pos,go_sem,eqV,plen])
  apply Run.seq (fr':=rfFr c b n n (leV (b.take n)) ++ [(20,.bool false)]) (H':=[])
  · apply Run.seq (fr':=rfFr c b n 0 0) (H':=[])
    · (refine ⟨0,?_⟩;simp (maxSteps:=2000000) -implicitDefEqProofs [-getElem?_pos,go_sem,eqV,plen,rfFr])
    · apply Run.block_exit
      refine Run.loop_rule (σ:=Nat) (fun i=>i≤n) (fun i=>rfFr c b n i (leV (b.take i))) (fun _=>[]) (fun _=>⟨.exit 0,rfFr c b n n (leV (b.take n)) ++ [(20,.bool false)],[]⟩) (fun i=>n - i) ?_ 0 (Nat.zero_le _)
      intro i hi
      simp only
      by_cases hin:i = n
      · right
        refine ⟨?_,by simp⟩
        subst hin
        (refine ⟨0,?_⟩;simp (maxSteps:=2000000) -implicitDefEqProofs [-getElem?_pos,go_sem,eqV,plen,rfFr])
      · left
        have hlt:i < b.length:=by omega
        have hiI:(i:Int) < (n:Int):=by omega
        obtain ⟨y,hy⟩:∃ y,b[i]? = some y:=⟨b[i],List.getElem?_eq_getElem hlt⟩
        have hx:=leV_lt (b.take i)
        rw [List.length_take,Nat.min_eq_left (by omega)] at hx
        have hor:=or_le hx y.toNat_lt (show i < 8 by omega)
        have hsn:=leV_snoc y (b.take i)
        rw [← take_snoc hy,List.length_take,Nat.min_eq_left (by omega)] at hsn
        rw [← hsn] at hor
        refine ⟨i + 1,by omega,?_,trivial,by omega⟩
        have w1:IntKind.i64.wrap ((i:Int) + 1) = ((i + 1:Nat):Int):=by rw [wrap_i64 (by omega) (by omega)];omega
        have w8:IntKind.i64.wrap (8 * (i:Int)) = ((8 * i:Nat):Int):=by rw [wrap_i64 (by omega) (by omega)];omega
        have wy:IntKind.u64.wrap (y.toNat:Int) = (y.toNat:Int):=wrap_u64 (by omega) (by have:=y.toNat_lt;omega)
        have hm:min (8 * i) 64 = 8 * i:=by omega
        have hm0:¬ (((8 * i:Nat):Int) < 0):=by omega
        generalize h8i:8 * i = i8 at *
        (refine ⟨0,?_⟩;simp (maxSteps:=2000000) -implicitDefEqProofs [-getElem?_pos,go_sem,eqV,plen,rfFr,hiI,hlt,hy,w8,wy,hm,hm0,w1,IntKind.bits])
        exact hor
  refine ⟨0,?_⟩
  simp (maxSteps:=2000000) -implicitDefEqProofs [-getElem?_pos,go_sem,eqV,plen,rfFr]
def rgFr (i:Nat) (x:Nat):AM.Frame:=[(0,.ro c (.pb b) 1),(1,.int .i64 (n:Nat)),(6,.int .u64 (x:Nat)),(7,.int .i64 (i:Nat))]
theorem rreadFixed_code (n:Int) (hb:b.length < 9223372036854775808):∃ code,Tryz.f76.body = some code ∧
    Run X T 76 0 code [(0,.ro c (.pb b) 1),(1,.int .i64 n)] [] ⟨.ret,[(4,.int .u64 (rfR b n).1),(5,.int .i64 (rfR b n).2)],[]⟩:=by
  refine ⟨_,rfl,?_⟩
  unfold rfR
  by_cases h1:n < 1
  · rw [if_pos (.inl h1)]
    refine ⟨0,?_⟩
    simp (maxSteps:=2000000) -implicitDefEqProofs [-getElem?_pos,go_sem,eqV,plen,h1]
  by_cases h8:8 < n
  · rw [if_pos (.inr h8)]
    refine ⟨0,?_⟩
    simp (maxSteps:=2000000) -implicitDefEqProofs [-getElem?_pos,go_sem,eqV,plen,h1,h8]
  rw [if_neg (by omega)]
  by_cases hl:(b.length:Int) < n
  · rw [if_pos hl]
    refine ⟨0,?_⟩
    simp (maxSteps:=2000000) -implicitDefEqProofs [-getElem?_pos,go_sem,eqV,plen,h1,h8,hl]
  rw [if_neg hl]
  obtain ⟨n,rfl⟩:∃ m:Nat,n = (m:Int):=⟨n.toNat,by omega⟩
  rw [Int.toNat_natCast]
  apply Run.seq
  · (refine ⟨0,?_⟩;conv=>lhs;simp (maxSteps:=2000000) -implicitDefEqProofs [-getElem?_pos,go_sem,eqV,plen])
  apply Run.seq
  · (refine ⟨0,?_⟩;conv=>lhs;simp (maxSteps:=2000000) -implicitDefEqProofs [-getElem?_pos,go_sem,eqV,plen,h1,h8])
  apply Run.seq
  · (refine ⟨0,?_⟩;conv=>lhs;simp (maxSteps:=2000000) -implicitDefEqProofs [-getElem?_pos,go_sem,eqV,plen,hl])
  apply Run.seq
  · (refine ⟨0,?_⟩;conv=>lhs;simp (maxSteps:=2000000) -implicitDefEqProofs [-getElem?_pos,go_sem,eqV,plen])
  apply Run.seq (fr':=rgFr c b n n (leV (b.take n)) ++ [(20,.bool false)]) (H':=[])
  · apply Run.seq (fr':=rgFr c b n 0 0) (H':=[])
    · (refine ⟨0,?_⟩;simp (maxSteps:=2000000) -implicitDefEqProofs [-getElem?_pos,go_sem,eqV,plen,rgFr])
    · apply Run.block_exit
      refine Run.loop_rule (σ:=Nat) (fun i=>i≤n) (fun i=>rgFr c b n i (leV (b.take i))) (fun _=>[]) (fun _=>⟨.exit 0,rgFr c b n n (leV (b.take n)) ++ [(20,.bool false)],[]⟩) (fun i=>n - i) ?_ 0 (Nat.zero_le _)
      intro i hi
      simp only
      by_cases hin:i = n
      · right
        refine ⟨?_,by simp⟩
        subst hin
        (refine ⟨0,?_⟩;simp (maxSteps:=2000000) -implicitDefEqProofs [-getElem?_pos,go_sem,eqV,plen,rgFr])
      · left
        have hlt:i < b.length:=by omega
        have hiI:(i:Int) < (n:Int):=by omega
        obtain ⟨y,hy⟩:∃ y,b[i]? = some y:=⟨b[i],List.getElem?_eq_getElem hlt⟩
        have hx:=leV_lt (b.take i)
        rw [List.length_take,Nat.min_eq_left (by omega)] at hx
        have hor:=or_le hx y.toNat_lt (show i < 8 by omega)
        have hsn:=leV_snoc y (b.take i)
        rw [← take_snoc hy,List.length_take,Nat.min_eq_left (by omega)] at hsn
        rw [← hsn] at hor
        refine ⟨i + 1,by omega,?_,trivial,by omega⟩
        have w1:IntKind.i64.wrap ((i:Int) + 1) = ((i + 1:Nat):Int):=by rw [wrap_i64 (by omega) (by omega)];omega
        have wi:IntKind.u64.wrap (i:Int) = (i:Int):=wrap_u64 (by omega) (by omega)
        have w8:IntKind.u64.wrap (8 * (i:Int)) = ((8 * i:Nat):Int):=by rw [wrap_u64 (by omega) (by omega)];omega
        have wy:IntKind.u64.wrap (y.toNat:Int) = (y.toNat:Int):=wrap_u64 (by omega) (by have:=y.toNat_lt;omega)
        have hm:min (8 * i) 64 = 8 * i:=by omega
        have hm0:¬ (((8 * i:Nat):Int) < 0):=by omega
        generalize h8i:8 * i = i8 at *
        (refine ⟨0,?_⟩;simp (maxSteps:=2000000) -implicitDefEqProofs [-getElem?_pos,go_sem,eqV,plen,rgFr,hiI,hlt,hy,wi,w8,wy,hm,hm0,w1,IntKind.bits])
        exact hor
  refine ⟨0,?_⟩
  simp (maxSteps:=2000000) -implicitDefEqProofs [-getElem?_pos,go_sem,eqV,plen,rgFr]
end
end Go.Proofs.YtafdnpcamepbmaaGreatDoor
namespace Go.Proofs.YtafdnpcamepbmaaGreatDoor
open Go.AM
def nilB:AM.Obj:=⟨.pb [],0,.none,0,true,false,0⟩
theorem nilB_rw:Rw (.pb []) 0 nilB:=⟨rfl,rfl,rfl,rfl,rfl⟩
theorem emB:rowOf (emptyRow X 5) .none 0 = nilB:=by simp [emptyRow,rowOf,nilB]
theorem app_b {H:AM.Heap} {o g:Nat} {ob:AM.Obj} {l m:List UInt8} {src:AV} (ho:H[o]? = some (some ob)) (h:Rw (.pb l) g ob) (hsrc:srcV H src = some (.pb m,0)∨(srcV H src = some (.pn,0)∧m = [])) (hn:l.length + m.length≤100000000) :
    ∃ ob',Rw (.pb (l ++ m)) (g + 1) ob'∧appendV X H 22 (.sl o 0 l.length g) src = some (.sl o 0 (l.length + m.length) (g + 1),upd H o (some ob')) :=
  app_rw (by simp) (und5) (by simp) (by simp) (by simp) ho h hsrc hn
theorem app_lit {H:AM.Heap} {m:List UInt8} {src:AV} (hsrc:srcV H src = some (.pb m,0)∨(srcV H src = some (.pn,0)∧m = [])) (hn:m.length≤100000000) :
    appendV X H 22 (.ro 1 (.pb []) 0) src = some (.sl H.length 0 m.length 0,H ++ [some ⟨.pb m,0,.none,1,true,false,0⟩]):=by
  have hroom:roomOk X 5 m.length = true:=by simp [roomOk];omega
  simp only [appendV,und22,size5,zok5]
  rcases hsrc with h | ⟨h,rfl⟩
  · simp [h,payB,plen,hroom,papp,emptyRow,pesz]
  · simp only [List.length_nil] at hroom
    simp [h,payB,plen,hroom,papp,emptyRow,pesz]
theorem srcB {H:AM.Heap} {c t:Nat} {p:AV} {l:List UInt8} (hp:PB p l):srcV H (.ro c p t) = some (.pb l,0)∨(srcV H (.ro c p t) = some (.pn,0)∧l = []):=by
  rcases hp with rfl | ⟨rfl,rfl⟩
  · left;rfl
  · right;exact ⟨rfl,rfl⟩
theorem bs0 (H:AM.Heap):buildSliceV X H 22 0 [] = some (.ro 1 (.pb []) 0,H):=by kernel_rfl
theorem coB {p:AV} {b:List UInt8} {c t:Nat} {r:List AV} {ts:List TypeId} (hp:PB p b):coerce X (.ro c p t :: r) (22 :: ts) = .ro c (.pb b) t :: coerce X r ts:=by
  rcases hp with rfl | ⟨rfl,rfl⟩
  · simp [coerce]
  · simp [coerce,emptyRow]
section
variable (T:Cf) (c:Nat) (b:List UInt8)
theorem clone_code (hc:c = 0→b = []) (hb:b.length≤100000000):∃ code,Tryz.f36.body = some code ∧
    Tells (Rets fun fr H=>∃ o g ob,getF fr 2 = .sl o 0 b.length g∧H[o]? = some (some ob)∧Rw (.pb b) g ob) X T 36 0 code [(0,.ro c (.pb b) 1)] []:=by
  refine ⟨_,rfl,?_⟩
  by_cases h0:c = 0
  · have hbn:=hc h0
    subst hbn
    subst h0
    refine Tells.of (o:=⟨.ret,[(2,.sl 1 0 0 0)],[some nilB,some nilB]⟩) ?_ ⟨rfl,1,0,nilB,rfl,rfl,nilB_rw⟩
    refine ⟨0,?_⟩
    simp (maxSteps:=2000000) -implicitDefEqProofs [-getElem?_pos,go_sem,eqV,plen,assignV,emB,isNil,nilFor]
  · have hA:=app_lit (H:=[some nilB]) (srcB (H:=[some nilB]) (c:=c) (t:=1) (.inl rfl)) hb
    refine Tells.of (o:=⟨.ret,[(2,.sl 1 0 b.length 0)],[some nilB,some ⟨.pb b,0,.none,1,true,false,0⟩]⟩) ?_ ⟨rfl,1,0,_,rfl,rfl,⟨rfl,rfl,rfl,rfl,rfl⟩⟩
    refine ⟨0,?_⟩
    simp (maxSteps:=2000000) -implicitDefEqProofs [-getElem?_pos,go_sem,eqV,plen,assignV,emB,isNil,nilFor,h0,bs0,hA]
end
theorem clone_ev {H:AM.Heap} {a:AV} {b:List UInt8} (h:Byt H a b) (hb:b.length≤100000000):∃ ob,Rw (.pb b) 0 ob∧evT X 36 [a] H = some (.sl H.length 0 b.length 0,H ++ [some ob]):=by
  obtain ⟨c,p,x,hp,hc,hx⟩:=args_byt (C:=X) (f:=36) (i:=0) rfl h (args_nil 1)
  obtain ⟨code,hcode,hr⟩:=clone_code (evT X) c b hc hb
  obtain ⟨ob,h1,h2⟩:=Ev1.newB (H:=H) (n:=b.length) (l:=b) (rest:=[]) (evT_below X) Tryz.func36 hcode hx (by simp [idsL,ids,hp.ids]) (by simp [gtag]) rfl rfl rfl (by
    obtain ⟨o,⟨he,o1,g,ob,q1,q2,q3⟩,hrun⟩:=hr
    exact ⟨o,⟨he,o1,g,ob,congrArg (fun v=>some [v]) q1,q2,q3⟩,by rw [par36,coB hp];exact hrun⟩)
  exact ⟨ob,h1,evT_eq h2⟩
theorem bs1 (H:AM.Heap) (y:UInt8):buildSliceV X H 22 1 [(0,.int .u8 (y.toNat:Nat))] = some (.ro 1 (.pb [y]) 0,H):=by
  have:=y.toNat_lt
  have h1:(y.toNat:Int) < 256:=by omega
  simp [buildSliceV,setParts,litRow,mkRow,asBytes,cellsAV,cellsOf,scalars,scalar,idsL,ids,tagsL,tags,joinTags,h1]
theorem shr_u64 {x i:Nat} (hi:i < 8):Int.fdiv (x:Int) (2 ^ (min (8 * i) 64)) = ((x / 256 ^ i:Nat):Int):=by
  rw [Nat.min_eq_left (by omega),pow256]
  rw [show ((2:Int) ^ (8 * i)) = ((2 ^ (8 * i):Nat):Int) by simp]
  rw [Int.fdiv_eq_ediv_of_nonneg _ (Int.natCast_nonneg _)]
  exact (Int.natCast_ediv _ _).symm
theorem wrap_byte (z:Nat):IntKind.u8.wrap (z:Int) = ((UInt8.ofNat (z % 256)).toNat:Nat):=by
  have:(UInt8.ofNat (z % 256)).toNat = z % 256:=by simp
  rw [this]
  unfold IntKind.wrap
  simp [IntKind.signed,IntKind.bits]
section
variable (c:Nat) (b:List UInt8) (x n:Nat)
def afFr (i:Nat):AM.Frame:=[(1,.int .u64 (x:Nat)),(8,.sl 1 0 (b.length + i) i),(29,.int .i64 (n:Nat)),(30,.int .i64 (i:Nat))]
theorem af_code (hc:c = 0→b = []) (hb:b.length≤90000000) (h1:1≤n) (h8:n≤8) (hx:x < 256 ^ n):∃ code,Tryz.f75.body = some code ∧
    Tells (Rets fun fr H=>∃ o g ob,getF fr 6 = .sl o 0 (b.length + n) g∧getF fr 7 = .int .i64 0∧H[o]? = some (some ob)∧Rw (.pb (b ++ leB n x)) g ob) X (evT X) 75 0 code [(0,.ro c (.pb b) 1),(1,.int .u64 (x:Nat)),(2,.int .i64 (n:Nat))] []:=by
  refine ⟨_,rfl,?_⟩
  obtain ⟨ob0,hw0,hC⟩:=clone_ev (H:=[some nilB]) (a:=.ro c (.pb b) 1) (b:=b) (Byt.ro (.inl rfl) hc) (by omega)
  have g1:¬ (n:Int) < 1:=by omega
  have g8:¬ (8:Int) < (n:Int):=by omega
  have hz:(n:Int) < 8→Int.fdiv (x:Int) (2 ^ (min (8 * n) 64)) = 0:=by
    intro h
    rw [shr_u64 (by omega),Nat.div_eq_of_lt hx];rfl
  have w8:IntKind.i64.wrap (8 * (n:Int)) = ((8 * n:Nat):Int):=by rw [wrap_i64 (by omega) (by omega)];omega
  have hn0:¬ (((8 * n:Nat):Int) < 0):=by omega
  have hmb:IntKind.u64.bits = 64:=rfl
  apply Tells.seq
  · (refine ⟨0,?_⟩;conv=>lhs;simp (maxSteps:=2000000) -implicitDefEqProofs [-getElem?_pos,go_sem,eqV,plen,assignV,emB])
  apply Tells.seq (fr':=[(0,.ro c (.pb b) 1),(1,.int .u64 (x:Nat)),(2,.int .i64 (n:Nat)),(26,.bool false)]) (H':=[some nilB])
  · by_cases h:(n:Int) < 8
    · have hz:=hz h
      generalize 8 * n = n8 at *
      (refine ⟨0,?_⟩;simp (maxSteps:=2000000) -implicitDefEqProofs [-getElem?_pos,go_sem,eqV,plen,g1,g8,h,hz,w8,hn0,hmb])
    · (refine ⟨0,?_⟩;simp (maxSteps:=2000000) -implicitDefEqProofs [-getElem?_pos,go_sem,eqV,plen,g1,g8,h,hz,w8,hn0,hmb])
  apply Tells.seq (fr':=[(1,.int .u64 (x:Nat)),(2,.int .i64 (n:Nat)),(8,.sl 1 0 b.length 0)]) (H':=[some nilB,some ob0])
  · (refine ⟨0,?_⟩;simp (maxSteps:=2000000) -implicitDefEqProofs [-getElem?_pos,go_sem,eqV,plen,hC,assignV])
  apply Tells.andThen (P:=fun fr H=>∃ ob,Rw (.pb (b ++ leB n x)) n ob∧fr = afFr b x n n ++ [(31,.bool false)]∧H = [some nilB,some ob])
  · apply Tells.seq (fr':=afFr b x n 0) (H':=[some nilB,some ob0])
    · (refine ⟨0,?_⟩;simp (maxSteps:=2000000) -implicitDefEqProofs [-getElem?_pos,go_sem,eqV,plen,afFr])
    apply Tells.block
    refine Tells.loop (σ:=Nat × AM.Obj) (fun s=>s.1≤n∧Rw (.pb (b ++ leB s.1 x)) s.1 s.2) (fun s=>afFr b x n s.1) (fun s=>[some nilB,some s.2]) (fun s=>n - s.1) ?_ (0,ob0) ⟨by simp,by simpa [leB] using hw0⟩
    rintro ⟨i,ob⟩ ⟨hi,hw⟩
    simp only at hi hw ⊢
    by_cases hin:i = n
    · right
      subst hin
      refine ⟨⟨.exit 0,afFr b x i i ++ [(31,.bool false)],[some nilB,some ob]⟩,⟨rfl,ob,hw,rfl,rfl⟩,by simp,?_⟩
      (refine ⟨0,?_⟩;simp (maxSteps:=2000000) -implicitDefEqProofs [-getElem?_pos,go_sem,eqV,plen,afFr])
    · left
      have hlt:i < 8:=by omega
      have hiI:(i:Int) < (n:Int):=by omega
      have w1:IntKind.i64.wrap ((i:Int) + 1) = ((i + 1:Nat):Int):=by rw [wrap_i64 (by omega) (by omega)];omega
      have w8:IntKind.i64.wrap (8 * (i:Int)) = ((8 * i:Nat):Int):=by rw [wrap_i64 (by omega) (by omega)];omega
      have hn0:¬ (((8 * i:Nat):Int) < 0):=by omega
      have hsh:=shr_u64 (x:=x) hlt
      have hlen:=leB_len i x
      obtain ⟨ob',hw',hA⟩:=app_b (H:=[some nilB,some ob]) (o:=1) (src:=.ro 1 (.pb [UInt8.ofNat (x / 256 ^ i % 256)]) 0) rfl hw (.inl rfl) (by simp [hlen];omega)
      rw [List.append_assoc,← leB_snoc] at hw'
      simp only [List.length_append,hlen,List.length_cons,List.length_nil] at hA
      refine ⟨(i + 1,ob'),⟨by simp only;omega,hw'⟩,?_,by simp only;omega⟩
      have hwb:=wrap_byte (x / 256 ^ i)
      have hbs:=fun H=>bs1 H (UInt8.ofNat (x / 256 ^ i % 256))
      generalize x / 256 ^ i = z at *
      generalize UInt8.ofNat (z % 256) = y at *
      generalize 8 * i = i8 at *
      (refine ⟨0,?_⟩;simp (maxSteps:=2000000) -implicitDefEqProofs [-getElem?_pos,go_sem,eqV,plen,afFr,hiI,w1,w8,hn0,hmb,hsh,hwb,hbs,hA,upd])
      omega
  · rintro fr H ⟨ob,hw,rfl,rfl⟩
    refine Tells.of (o:=⟨.ret,[(6,.sl 1 0 (b.length + n) n),(7,.int .i64 0)],[some nilB,some ob]⟩) ?_ ⟨rfl,1,n,ob,rfl,rfl,rfl,hw⟩
    refine ⟨0,?_⟩
    simp (maxSteps:=2000000) -implicitDefEqProofs [-getElem?_pos,go_sem,eqV,plen,afFr,assignV]
end
theorem af_ev {H:AM.Heap} {a:AV} {b:List UInt8} {x n:Nat} (h:Byt H a b) (hb:b.length≤90000000) (h1:1≤n) (h8:n≤8) (hx:x < 256 ^ n) :
    ∃ ob,Rw (.pb (b ++ leB n x)) 0 ob∧evT X 75 [a,.int .u64 (x:Nat),.int .i64 (n:Nat)] H = some (.tup [.sl H.length 0 (b.length + n) 0,.int .i64 0],H ++ [some ob]):=by
  obtain ⟨c,p,xl,hp,hc,hx'⟩:=args_byt (C:=X) (f:=75) (i:=0) rfl h (args_flat (i:=1) (a:=.int .u64 (x:Nat)) rfl rfl (args_flat (i:=2) (a:=.int .i64 (n:Nat)) rfl rfl (args_nil 3)))
  obtain ⟨code,hcode,hr⟩:=af_code c b x n hc hb h1 h8 hx
  obtain ⟨ob,q1,q2⟩:=Ev1.newB (H:=H) (n:=b.length + n) (l:=b ++ leB n x) (rest:=[.int .i64 0]) (evT_below X) Tryz.func75 hcode hx' (by simp [idsL,ids,hp.ids]) (by simp [gtag]) rfl rfl rfl (by
    obtain ⟨o,⟨he,o1,g,ob,q1,q2,q3,q4⟩,hrun⟩:=hr
    exact ⟨o,⟨he,o1,g,ob,by show some [getF o.fr 6,getF o.fr 7] = _;rw [q1,q2],q3,q4⟩,by rw [par75,coB hp];exact hrun⟩)
  exact ⟨ob,q1,evT_eq q2⟩
end Go.Proofs.YtafdnpcamepbmaaGreatDoor
namespace Go.Proofs.YtafdnpcamepbmaaGreatDoor
open Go.AM
def szI (x:Nat):Nat:=if x≤250 then 1 else if x < 65536 then 3 else if x < 16777216 then 4 else 9
def frm (x:Nat):Nat × Nat:=if x≤250 then (0,1) else if x < 65536 then (252,2) else if x < 16777216 then (253,3) else (254,8)
def bsz (h:Nat):Nat:=if h = 254 then 8 else h - 250
theorem bsz_le {h:Nat} (h1:¬ (h = 251∨h = 255)) (h2:¬ h≤250) (h3:h < 256):1≤bsz h∧bsz h≤8:=by
  unfold bsz;split <;> omega
def rdI (b:List UInt8):Nat × Nat × Int :=
  match b with
  | []=>(0,0,4)
  | h :: t =>
    if h.toNat = 251∨h.toNat = 255 then (0,0,5) else if h.toNat≤250 then (h.toNat,1,0)
    else if t.length < bsz h.toNat then (0,0,4) else (leV (t.take (bsz h.toNat)),bsz h.toNat + 1,0)
def rdT (b:List UInt8):List UInt8 × Nat × Int :=
  if (rdI b).2.2 ≠ 0 then ([],0,(rdI b).2.2) else if b.length - (rdI b).2.1 < (rdI b).1 then ([],0,4) else ((b.drop (rdI b).2.1).take (rdI b).1,(rdI b).2.1 + (rdI b).1,0)
theorem rdI_le {b:List UInt8} (h:(rdI b).2.2 = 0):(rdI b).2.1≤b.length∧1≤(rdI b).2.1:=by
  unfold rdI at h ⊢
  match b with
  | []=>simp at h
  | y :: t =>
    simp only at h ⊢
    by_cases h1:y.toNat = 251∨y.toNat = 255
    · rw [if_pos h1] at h;simp at h
    · rw [if_neg h1] at h ⊢
      by_cases h2:y.toNat≤250
      · rw [if_pos h2];simp
      · rw [if_neg h2] at h ⊢
        generalize bsz y.toNat = n at *
        by_cases h3:t.length < n
        · rw [if_pos h3] at h;simp at h
        · rw [if_neg h3]
          simp only [List.length_cons];omega
theorem rdI_lt (b:List UInt8):(rdI b).1 < 18446744073709551616:=by
  unfold rdI
  match b with
  | []=>simp
  | y :: t =>
    simp only
    have hy:=y.toNat_lt
    by_cases h1:y.toNat = 251∨y.toNat = 255
    · rw [if_pos h1];simp
    · rw [if_neg h1]
      by_cases h2:y.toNat≤250
      · rw [if_pos h2];simp only;omega
      · rw [if_neg h2]
        have hb:=(bsz_le h1 h2 hy).2
        generalize bsz y.toNat = n at *
        by_cases h3:t.length < n
        · rw [if_pos h3];simp
        · rw [if_neg h3]
          have h4:=leV_lt (t.take n)
          have h5:(t.take n).length≤8:=by rw [List.length_take];omega
          have h6:256 ^ (t.take n).length≤256 ^ 8:=Nat.pow_le_pow_right (by omega) h5
          exact Nat.lt_of_lt_of_le h4 h6
theorem rdT_le {b:List UInt8} (h:(rdT b).2.2 = 0):(rdT b).2.1≤b.length∧(rdT b).1.length≤b.length:=by
  unfold rdT at h ⊢
  split
  · rename_i h1;rw [if_pos h1] at h;exact absurd h h1
  · rename_i h1
    rw [if_neg h1] at h
    simp only [ne_eq,Decidable.not_not] at h1
    have:=rdI_le h1
    split
    · rename_i h2;rw [if_pos h2] at h;simp at h
    · simp only [List.length_take,List.length_drop];omega
section
variable (c:Nat) (b:List UInt8) (x:Nat)
theorem condT {C:Ctx} {T:Cf} {f m:Nat} {fr:AM.Frame} {H:AM.Heap} {o:AM.Out} {c:Operand} {a b:Code} (hc:evalO C fr c = .bool true) (h:Run C T f m a fr H o):Run C T f m (.cond c a b) fr H o :=
  Run.cond hc (by rw [if_pos rfl];exact h)
theorem condF {C:Ctx} {T:Cf} {f m:Nat} {fr:AM.Frame} {H:AM.Heap} {o:AM.Out} {c:Operand} {a b:Code} (hc:evalO C fr c = .bool false) (h:Run C T f m b fr H o):Run C T f m (.cond c a b) fr H o :=
  Run.cond hc (by rw [if_neg (by simp)];exact h)
theorem form_code:∃ code,Tryz.f74.body = some code ∧
    Run X (evT X) 74 0 code [(0,.int .u64 (x:Nat))] [] ⟨.ret,[(2,.int .u8 ((frm x).1:Nat)),(3,.int .i64 ((frm x).2:Nat))],[]⟩:=by
  refine ⟨_,rfl,0,?_⟩
  unfold frm
  by_cases h1:x≤250
  · have h1i:(x:Int)≤250:=by omega
    simp (maxSteps:=2000000) -implicitDefEqProofs [-getElem?_pos,go_sem,eqV,plen,h1,h1i]
  · have h1i:¬ (x:Int)≤250:=by omega
    by_cases h2:x < 65536
    · have h2i:(x:Int) < 65536:=by omega
      simp (maxSteps:=2000000) -implicitDefEqProofs [-getElem?_pos,go_sem,eqV,plen,h1,h1i,h2,h2i]
    · have h2i:¬ (x:Int) < 65536:=by omega
      by_cases h3:x < 16777216
      · have h3i:(x:Int) < 16777216:=by omega
        simp (maxSteps:=2000000) -implicitDefEqProofs [-getElem?_pos,go_sem,eqV,plen,h1,h1i,h2,h2i,h3,h3i]
      · have h3i:¬ (x:Int) < 16777216:=by omega
        simp (maxSteps:=2000000) -implicitDefEqProofs [-getElem?_pos,go_sem,eqV,plen,h1,h1i,h2,h2i,h3,h3i]
theorem rsize_code:∃ code,Tryz.f86.body = some code ∧
    Run X (evT X) 86 0 code [(0,.int .u64 (x:Nat))] [] ⟨.ret,[(2,.int .i64 (szI x:Nat))],[]⟩:=by
  refine ⟨_,rfl,?_⟩
  unfold szI
  apply Run.seq
  · (refine ⟨0,?_⟩;conv=>lhs;simp (maxSteps:=2000000) -implicitDefEqProofs [-getElem?_pos,go_sem,eqV,plen])
  by_cases h1:x≤250
  · have h1i:(x:Int)≤250:=by omega
    rw [if_pos h1]
    apply Run.seq_out (hne:=by simp)
    apply Run.seq
    · (refine ⟨0,?_⟩;conv=>lhs;simp (maxSteps:=2000000) -implicitDefEqProofs [-getElem?_pos,go_sem,eqV,plen,h1i])
    refine condT (by simp [evalO,getF]) ?_
    refine ⟨0,?_⟩
    simp (maxSteps:=2000000) -implicitDefEqProofs [-getElem?_pos,go_sem,eqV,plen]
  have h1i:¬ (x:Int)≤250:=by omega
  rw [if_neg h1]
  apply Run.seq
  · (refine ⟨0,?_⟩;conv=>lhs;simp (maxSteps:=2000000) -implicitDefEqProofs [-getElem?_pos,go_sem,eqV,plen,h1i])
  by_cases h2:x < 65536
  · have h2i:(x:Int) < 65536:=by omega
    rw [if_pos h2]
    apply Run.seq_out (hne:=by simp)
    apply Run.seq
    · (refine ⟨0,?_⟩;conv=>lhs;simp (maxSteps:=2000000) -implicitDefEqProofs [-getElem?_pos,go_sem,eqV,plen,h2i])
    refine condT (by simp [evalO,getF]) ?_
    refine ⟨0,?_⟩
    simp (maxSteps:=2000000) -implicitDefEqProofs [-getElem?_pos,go_sem,eqV,plen]
  have h2i:¬ (x:Int) < 65536:=by omega
  rw [if_neg h2]
  apply Run.seq
  · (refine ⟨0,?_⟩;conv=>lhs;simp (maxSteps:=2000000) -implicitDefEqProofs [-getElem?_pos,go_sem,eqV,plen,h2i])
  by_cases h3:x < 16777216
  · have h3i:(x:Int) < 16777216:=by omega
    rw [if_pos h3]
    apply Run.seq_out (hne:=by simp)
    apply Run.seq
    · (refine ⟨0,?_⟩;conv=>lhs;simp (maxSteps:=2000000) -implicitDefEqProofs [-getElem?_pos,go_sem,eqV,plen,h3i])
    refine condT (by simp [evalO,getF]) ?_
    refine ⟨0,?_⟩
    simp (maxSteps:=2000000) -implicitDefEqProofs [-getElem?_pos,go_sem,eqV,plen]
  have h3i:¬ (x:Int) < 16777216:=by omega
  rw [if_neg h3]
  apply Run.seq
  · (refine ⟨0,?_⟩;conv=>lhs;simp (maxSteps:=2000000) -implicitDefEqProofs [-getElem?_pos,go_sem,eqV,plen,h3i])
  refine ⟨0,?_⟩
  simp (maxSteps:=2000000) -implicitDefEqProofs [-getElem?_pos,go_sem,eqV,plen]
end
theorem form_ev (x:Nat) (H:AM.Heap):evT X 74 [.int .u64 (x:Nat)] H = some (.tup [.int .u8 ((frm x).1:Nat),.int .i64 ((frm x).2:Nat)],H):=by
  obtain ⟨code,hcode,hr⟩:=form_code x
  exact evT_eq (Ev1.toldP (l:=[.int .u8 ((frm x).1:Nat),.int .i64 ((frm x).2:Nat)]) (evT_below X) Tryz.func74 hcode (args_flat (i:=0) rfl rfl (args_nil 1)) rfl (by simp [gtag]) rfl rfl rfl ⟨_,⟨rfl,rfl⟩,hr⟩)
theorem rsize_ev (x:Nat) (H:AM.Heap):evT X 86 [.int .u64 (x:Nat)] H = some (.int .i64 (szI x:Nat),H):=by
  obtain ⟨code,hcode,hr⟩:=rsize_code x
  exact evT_eq (Ev1.toldP (l:=[.int .i64 (szI x:Nat)]) (evT_below X) Tryz.func86 hcode (args_flat (i:=0) rfl rfl (args_nil 1)) rfl (by simp [gtag]) rfl rfl rfl ⟨_,⟨rfl,rfl⟩,hr⟩)
section
variable (c:Nat) (b:List UInt8) (x:Nat)
end
end Go.Proofs.YtafdnpcamepbmaaGreatDoor
namespace Go.Proofs.YtafdnpcamepbmaaGreatDoor
open Go.AM
theorem rf0_ev {H:AM.Heap} {a:AV} {b:List UInt8} {n:Nat} (h:Byt H a b) (hb:b.length≤90000000) :
    evT X 44 [a,.int .i64 (n:Nat)] H = some (.tup [.int .u64 (rfR b n).1,.int .i64 (rfR b n).2],H):=by
  obtain ⟨c,p,xl,hp,hc,hx'⟩:=args_byt (C:=X) (f:=44) (i:=0) rfl h (args_flat (i:=1) (a:=.int .i64 (n:Nat)) rfl rfl (args_nil 2))
  obtain ⟨code,hcode,hr⟩:=readFixed_code (evT X) c b n (by omega)
  refine evT_eq (Ev1.toldP (l:=[.int .u64 (rfR b n).1,.int .i64 (rfR b n).2]) (evT_below X) Tryz.func44 hcode hx' (by simp [idsL,ids,hp.ids]) (by simp [gtag]) rfl rfl rfl ?_)
  rw [par44,coB hp]
  exact ⟨_,⟨rfl,rfl⟩,hr⟩
theorem rrf0_ev {H:AM.Heap} {a:AV} {b:List UInt8} {n:Nat} (h:Byt H a b) (hb:b.length≤90000000) :
    evT X 76 [a,.int .i64 (n:Nat)] H = some (.tup [.int .u64 (rfR b n).1,.int .i64 (rfR b n).2],H):=by
  obtain ⟨c,p,xl,hp,hc,hx'⟩:=args_byt (C:=X) (f:=76) (i:=0) rfl h (args_flat (i:=1) (a:=.int .i64 (n:Nat)) rfl rfl (args_nil 2))
  obtain ⟨code,hcode,hr⟩:=rreadFixed_code (evT X) c b n (by omega)
  refine evT_eq (Ev1.toldP (l:=[.int .u64 (rfR b n).1,.int .i64 (rfR b n).2]) (evT_below X) Tryz.func76 hcode hx' (by simp [idsL,ids,hp.ids]) (by simp [gtag]) rfl rfl rfl ?_)
  rw [par76,coB hp]
  exact ⟨_,⟨rfl,rfl⟩,hr⟩
theorem slFrom0 {c t n:Nat} {b:List UInt8} (hc:c = 0→b = []) (hn:n≤b.length) (H:AM.Heap):sliceV X H 22 (.ro c (.pb b) t) (some (.int .i64 (n:Nat))) none = some (.ro c (.pb (b.drop n)) t):=by
  have hcc:(if c = 0 then 0 else c) = c:=by split <;> omega
  have hnl:(n:Int)≤(b.length:Int):=by omega
  have hle:n + (b.length - n)≤b.length:=by omega
  have ht:List.take (b.length - n) (b.drop n) = b.drop n:=by rw [List.take_of_length_le (by simp)]
  simp [sliceV,bound,plen,pesz,psub,hnl,hcc,hle,ht]
def rdN' (t:List UInt8) (n:Nat):Nat × Nat × Int:=if t.length < n then (0,0,4) else (leV (t.take n),n + 1,0)
theorem rdI_cons (y:UInt8) (t:List UInt8):rdI (y :: t) = if y.toNat = 251∨y.toNat = 255 then (0,0,5) else if y.toNat≤250 then (y.toNat,1,0) else rdN' t (bsz y.toNat):=rfl
theorem beq_f {a:Nat} {n:Int} (h:(a:Int) ≠ n):((a:Int) == n) = false:=by simpa using h
section
variable (c:Nat) (b:List UInt8)
theorem readInt_code (hc:c = 0→b = []) (hb:b.length≤90000000):∃ code,Tryz.f39.body = some code ∧
    Run X (evT X) 39 0 code [(0,.ro c (.pb b) 1)] [] ⟨.ret,[(2,.int .u64 ((rdI b).1:Nat)),(3,.int .i64 ((rdI b).2.1:Nat)),(4,.int .i64 (rdI b).2.2)],[]⟩:=by
  refine ⟨_,rfl,?_⟩
  match b with
  | [] =>
    refine ⟨0,?_⟩
    simp (maxSteps:=2000000) -implicitDefEqProofs [-getElem?_pos,go_sem,eqV,plen,rdI]
  | y :: t =>
    rw [rdI_cons]
    have hy:(y :: t)[0]? = some y:=rfl
    have hl:0 < (y :: t).length:=by simp
    have hl0:¬ (y :: t).length = 0:=by simp
    have hsl:=fun H=>slFrom0 (t:=1) hc (show 1≤(y :: t).length by simp) H
    have hbt:∀ n:Nat,evT X 44 [.ro c (.pb t) 1,.int .i64 (n:Nat)] [] = some (.tup [.int .u64 (rfR t n).1,.int .i64 (rfR t n).2],[]):=fun n=>rf0_ev (Byt.ro (.inl rfl) (fun h=>by have:=hc h;simp at this)) (by simp at hb;omega)
    simp only [List.drop_succ_cons,List.drop_zero,Int.cast_ofNat_Int] at hsl
    have hyl:=y.toNat_lt
    have key:∀ n:Nat,1≤n→n≤8→rfR t n = ((((rdN' t n).1:Nat):Int),(rdN' t n).2.2)∧((rdN' t n).2.2 = 0∧(rdN' t n).2.1 = n + 1∨(rdN' t n).2.2 = 4∧(rdN' t n).2.1 = 0∧(rdN' t n).1 = 0):=by
      intro n h1 h8
      unfold rfR rdN'
      rw [if_neg (by omega)]
      by_cases h:t.length < n
      · rw [if_pos (by omega),if_pos h];exact ⟨rfl,.inr ⟨rfl,rfl,rfl⟩⟩
      · rw [if_neg (by omega),if_neg h,Int.toNat_natCast];exact ⟨rfl,.inl ⟨rfl,rfl⟩⟩
    have wy:IntKind.u64.wrap (y.toNat:Int) = (y.toNat:Int):=wrap_u64 (by omega) (by omega)
    by_cases h1:y.toNat = 251
    · rw [if_pos (.inl h1)]
      generalize y :: t = l at *
      refine ⟨0,?_⟩
      simp (maxSteps:=2000000) -implicitDefEqProofs [-getElem?_pos,go_sem,eqV,plen,hy,hl,hl0,h1]
    by_cases h2:y.toNat = 255
    · rw [if_pos (.inr h2)]
      generalize y :: t = l at *
      refine ⟨0,?_⟩
      simp (maxSteps:=2000000) -implicitDefEqProofs [-getElem?_pos,go_sem,eqV,plen,hy,hl,hl0,h2]
    rw [if_neg (by omega)]
    by_cases h3:y.toNat≤250
    · rw [if_pos h3]
      have e1:(y.toNat:Int) ≠ 251:=by omega
      have e2:(y.toNat:Int) ≠ 252:=by omega
      have e3:(y.toNat:Int) ≠ 253:=by omega
      have e4:(y.toNat:Int) ≠ 254:=by omega
      have e5:(y.toNat:Int) ≠ 255:=by omega
      have f1:=beq_f e1
      have f2:=beq_f e2
      have f3:=beq_f e3
      have f4:=beq_f e4
      have f5:=beq_f e5
      generalize y :: t = l at *
      refine ⟨0,?_⟩
      simp (maxSteps:=2000000) -implicitDefEqProofs [-getElem?_pos,go_sem,eqV,plen,hy,hl,hl0,e1,e2,e3,e4,e5,f1,f2,f3,f4,f5,wy]
    rw [if_neg h3]
    have hcases:y.toNat = 252∨y.toNat = 253∨y.toNat = 254:=by omega
    rcases hcases with h | h | h
    · have hk:=key 2 (by omega) (by omega)
      have hB:=hbt 2
      have hz:bsz y.toNat = 2:=by rw [h];rfl
      rw [hz]
      rw [hk.1] at hB
      generalize y :: t = l at *
      rcases hk.2 with ⟨q1,q2⟩ | ⟨q1,q2,q3⟩
      · refine ⟨0,?_⟩
        rw [q1] at hB
        simp only [Int.cast_ofNat_Int] at hB
        simp (maxSteps:=2000000) -implicitDefEqProofs [-getElem?_pos,go_sem,eqV,plen,hy,hl,hl0,h,hsl,hB,q1,q2,IntKind.wrap,IntKind.bits,IntKind.signed]
      · refine ⟨0,?_⟩
        rw [q1] at hB
        simp only [Int.cast_ofNat_Int] at hB
        simp (maxSteps:=2000000) -implicitDefEqProofs [-getElem?_pos,go_sem,eqV,plen,hy,hl,hl0,h,hsl,hB,q1,q2,q3]
    · have hk:=key 3 (by omega) (by omega)
      have hB:=hbt 3
      have hz:bsz y.toNat = 3:=by rw [h];rfl
      rw [hz]
      rw [hk.1] at hB
      generalize y :: t = l at *
      rcases hk.2 with ⟨q1,q2⟩ | ⟨q1,q2,q3⟩
      · refine ⟨0,?_⟩
        rw [q1] at hB
        simp only [Int.cast_ofNat_Int] at hB
        simp (maxSteps:=2000000) -implicitDefEqProofs [-getElem?_pos,go_sem,eqV,plen,hy,hl,hl0,h,hsl,hB,q1,q2,IntKind.wrap,IntKind.bits,IntKind.signed]
      · refine ⟨0,?_⟩
        rw [q1] at hB
        simp only [Int.cast_ofNat_Int] at hB
        simp (maxSteps:=2000000) -implicitDefEqProofs [-getElem?_pos,go_sem,eqV,plen,hy,hl,hl0,h,hsl,hB,q1,q2,q3]
    · have hk:=key 8 (by omega) (by omega)
      have hB:=hbt 8
      have hz:bsz y.toNat = 8:=by rw [h];rfl
      rw [hz]
      rw [hk.1] at hB
      generalize y :: t = l at *
      rcases hk.2 with ⟨q1,q2⟩ | ⟨q1,q2,q3⟩
      · refine ⟨0,?_⟩
        rw [q1] at hB
        simp only [Int.cast_ofNat_Int] at hB
        simp (maxSteps:=2000000) -implicitDefEqProofs [-getElem?_pos,go_sem,eqV,plen,hy,hl,hl0,h,hsl,hB,q1,q2,IntKind.wrap,IntKind.bits,IntKind.signed]
      · refine ⟨0,?_⟩
        rw [q1] at hB
        simp only [Int.cast_ofNat_Int] at hB
        simp (maxSteps:=2000000) -implicitDefEqProofs [-getElem?_pos,go_sem,eqV,plen,hy,hl,hl0,h,hsl,hB,q1,q2,q3]
theorem rreadInt_code (hc:c = 0→b = []) (hb:b.length≤90000000):∃ code,Tryz.f59.body = some code ∧
    Run X (evT X) 59 0 code [(0,.ro c (.pb b) 1)] [] ⟨.ret,[(2,.int .u64 ((rdI b).1:Nat)),(3,.int .i64 ((rdI b).2.1:Nat)),(4,.int .i64 (rdI b).2.2)],[]⟩:=by
  refine ⟨_,rfl,?_⟩
  match b with
  | [] =>
    refine ⟨0,?_⟩
    simp (maxSteps:=2000000) -implicitDefEqProofs [-getElem?_pos,go_sem,eqV,plen,rdI]
  | y :: t =>
    rw [rdI_cons]
    have hy:(y :: t)[0]? = some y:=rfl
    have hl:0 < (y :: t).length:=by simp
    have hl0:¬ (y :: t).length = 0:=by simp
    have hsl:=fun H=>slFrom0 (t:=1) hc (show 1≤(y :: t).length by simp) H
    have hbt:∀ n:Nat,evT X 76 [.ro c (.pb t) 1,.int .i64 (n:Nat)] [] = some (.tup [.int .u64 (rfR t n).1,.int .i64 (rfR t n).2],[]):=fun n=>rrf0_ev (Byt.ro (.inl rfl) (fun h=>by have:=hc h;simp at this)) (by simp at hb;omega)
    simp only [List.drop_succ_cons,List.drop_zero,Int.cast_ofNat_Int] at hsl
    have hyl:=y.toNat_lt
    have key:∀ n:Nat,1≤n→n≤8→rfR t n = ((((rdN' t n).1:Nat):Int),(rdN' t n).2.2)∧((rdN' t n).2.2 = 0∧(rdN' t n).2.1 = n + 1∨(rdN' t n).2.2 = 4∧(rdN' t n).2.1 = 0∧(rdN' t n).1 = 0):=by
      intro n h1 h8
      unfold rfR rdN'
      rw [if_neg (by omega)]
      by_cases h:t.length < n
      · rw [if_pos (by omega),if_pos h];exact ⟨rfl,.inr ⟨rfl,rfl,rfl⟩⟩
      · rw [if_neg (by omega),if_neg h,Int.toNat_natCast];exact ⟨rfl,.inl ⟨rfl,rfl⟩⟩
    have wy:IntKind.u64.wrap (y.toNat:Int) = (y.toNat:Int):=wrap_u64 (by omega) (by omega)
    by_cases h1:y.toNat = 251
    · rw [if_pos (.inl h1)]
      generalize y :: t = l at *
      refine ⟨0,?_⟩
      simp (maxSteps:=2000000) -implicitDefEqProofs [-getElem?_pos,go_sem,eqV,plen,hy,hl,hl0,h1]
    by_cases h2:y.toNat = 255
    · rw [if_pos (.inr h2)]
      generalize y :: t = l at *
      refine ⟨0,?_⟩
      simp (maxSteps:=2000000) -implicitDefEqProofs [-getElem?_pos,go_sem,eqV,plen,hy,hl,hl0,h2]
    rw [if_neg (by omega)]
    by_cases h3:y.toNat≤250
    · rw [if_pos h3]
      have e1:(y.toNat:Int)≤250:=by omega
      generalize y :: t = l at *
      refine ⟨0,?_⟩
      simp (maxSteps:=2000000) -implicitDefEqProofs [-getElem?_pos,go_sem,eqV,plen,hy,hl,hl0,e1,wy]
    rw [if_neg h3]
    have hcases:y.toNat = 252∨y.toNat = 253∨y.toNat = 254:=by omega
    rcases hcases with h | h | h
    · have hk:=key 2 (by omega) (by omega)
      have hB:=hbt 2
      have hz:bsz y.toNat = 2:=by rw [h];rfl
      rw [hz]
      rw [hk.1] at hB
      generalize y :: t = l at *
      rcases hk.2 with ⟨q1,q2⟩ | ⟨q1,q2,q3⟩
      · refine ⟨0,?_⟩
        rw [q1] at hB
        simp only [Int.cast_ofNat_Int] at hB
        simp (maxSteps:=2000000) -implicitDefEqProofs [-getElem?_pos,go_sem,eqV,plen,hy,hl,hl0,h,hsl,hB,q1,q2,IntKind.wrap,IntKind.bits,IntKind.signed]
      · refine ⟨0,?_⟩
        rw [q1] at hB
        simp only [Int.cast_ofNat_Int] at hB
        simp (maxSteps:=2000000) -implicitDefEqProofs [-getElem?_pos,go_sem,eqV,plen,hy,hl,hl0,h,hsl,hB,q1,q2,q3,IntKind.wrap,IntKind.bits,IntKind.signed]
    · have hk:=key 3 (by omega) (by omega)
      have hB:=hbt 3
      have hz:bsz y.toNat = 3:=by rw [h];rfl
      rw [hz]
      rw [hk.1] at hB
      generalize y :: t = l at *
      rcases hk.2 with ⟨q1,q2⟩ | ⟨q1,q2,q3⟩
      · refine ⟨0,?_⟩
        rw [q1] at hB
        simp only [Int.cast_ofNat_Int] at hB
        simp (maxSteps:=2000000) -implicitDefEqProofs [-getElem?_pos,go_sem,eqV,plen,hy,hl,hl0,h,hsl,hB,q1,q2,IntKind.wrap,IntKind.bits,IntKind.signed]
      · refine ⟨0,?_⟩
        rw [q1] at hB
        simp only [Int.cast_ofNat_Int] at hB
        simp (maxSteps:=2000000) -implicitDefEqProofs [-getElem?_pos,go_sem,eqV,plen,hy,hl,hl0,h,hsl,hB,q1,q2,q3,IntKind.wrap,IntKind.bits,IntKind.signed]
    · have hk:=key 8 (by omega) (by omega)
      have hB:=hbt 8
      have hz:bsz y.toNat = 8:=by rw [h];rfl
      rw [hz]
      rw [hk.1] at hB
      generalize y :: t = l at *
      rcases hk.2 with ⟨q1,q2⟩ | ⟨q1,q2,q3⟩
      · refine ⟨0,?_⟩
        rw [q1] at hB
        simp only [Int.cast_ofNat_Int] at hB
        simp (maxSteps:=2000000) -implicitDefEqProofs [-getElem?_pos,go_sem,eqV,plen,hy,hl,hl0,h,hsl,hB,q1,q2,IntKind.wrap,IntKind.bits,IntKind.signed]
      · refine ⟨0,?_⟩
        rw [q1] at hB
        simp only [Int.cast_ofNat_Int] at hB
        simp (maxSteps:=2000000) -implicitDefEqProofs [-getElem?_pos,go_sem,eqV,plen,hy,hl,hl0,h,hsl,hB,q1,q2,q3,IntKind.wrap,IntKind.bits,IntKind.signed]
end
theorem readInt_ev {H:AM.Heap} {a:AV} {b:List UInt8} (h:Byt H a b) (hb:b.length≤90000000) :
    evT X 39 [a] H = some (.tup [.int .u64 ((rdI b).1:Nat),.int .i64 ((rdI b).2.1:Nat),.int .i64 (rdI b).2.2],H):=by
  obtain ⟨c,p,xl,hp,hc,hx'⟩:=args_byt (C:=X) (f:=39) (i:=0) rfl h (args_nil 1)
  obtain ⟨code,hcode,hr⟩:=readInt_code c b hc hb
  refine evT_eq (Ev1.toldP (l:=[.int .u64 ((rdI b).1:Nat),.int .i64 ((rdI b).2.1:Nat),.int .i64 (rdI b).2.2]) (evT_below X) Tryz.func39 hcode hx' (by simp [idsL,ids,hp.ids]) (by simp [gtag]) rfl rfl rfl ?_)
  rw [par39,coB hp]
  exact ⟨_,⟨rfl,rfl⟩,hr⟩
theorem rreadInt_ev {H:AM.Heap} {a:AV} {b:List UInt8} (h:Byt H a b) (hb:b.length≤90000000) :
    evT X 59 [a] H = some (.tup [.int .u64 ((rdI b).1:Nat),.int .i64 ((rdI b).2.1:Nat),.int .i64 (rdI b).2.2],H):=by
  obtain ⟨c,p,xl,hp,hc,hx'⟩:=args_byt (C:=X) (f:=59) (i:=0) rfl h (args_nil 1)
  obtain ⟨code,hcode,hr⟩:=rreadInt_code c b hc hb
  refine evT_eq (Ev1.toldP (l:=[.int .u64 ((rdI b).1:Nat),.int .i64 ((rdI b).2.1:Nat),.int .i64 (rdI b).2.2]) (evT_below X) Tryz.func59 hcode hx' (by simp [idsL,ids,hp.ids]) (by simp [gtag]) rfl rfl rfl ?_)
  rw [par59,coB hp]
  exact ⟨_,⟨rfl,rfl⟩,hr⟩
end Go.Proofs.YtafdnpcamepbmaaGreatDoor
namespace Go.Proofs.YtafdnpcamepbmaaGreatDoor
open Go.AM
def cL:Code→Option Code
  | .seq a _=>some a
  | _=>none
def cR:Code→Option Code
  | .seq _ b=>some b
  | _=>none
abbrev St:=List UInt8 × Int
def fx (n:Nat) (s:St):Nat × St :=
  if s.2 ≠ 0 then (0,s) else if s.1.length < n then (0,s.1,4) else (leV (s.1.take n),s.1.drop n,0)
theorem rf_ev {H:AM.Heap} {a:AV} {b:List UInt8} {n:Nat} (h:Byt H a b) (hb:b.length≤90000000) :
    evT X 44 [a,.int .i64 (n:Nat)] H = some (.tup [.int .u64 (rfR b n).1,.int .i64 (rfR b n).2],H):=by
  obtain ⟨c,p,xl,hp,hc,hx'⟩:=args_byt (C:=X) (f:=44) (i:=0) rfl h (args_flat (i:=1) (a:=.int .i64 (n:Nat)) rfl rfl (args_nil 2))
  obtain ⟨code,hcode,hr⟩:=readFixed_code (evT X) c b n (by omega)
  refine evT_eq (Ev1.toldP (l:=[.int .u64 (rfR b n).1,.int .i64 (rfR b n).2]) (evT_below X) Tryz.func44 hcode hx' (by simp [idsL,ids,hp.ids]) (by simp [gtag]) rfl rfl rfl ?_)
  rw [par44,coB hp]
  exact ⟨_,⟨rfl,rfl⟩,hr⟩
def rdO (c t tg:Nat) (s:St):AM.Obj:=⟨.pc [.ro c (.pb s.1) t,.int .i64 s.2],0,some 2,1,false,true,tg⟩
section
variable (c t tg:Nat) (s:St) (n:Nat)
end
theorem fx_lt {n:Nat} (s:St):(fx n s).1 < 256 ^ n:=by
  unfold fx
  split
  · exact Nat.pow_pos (by omega)
  · split
    · exact Nat.pow_pos (by omega)
    · have:=leV_lt (s.1.take n)
      rw [List.length_take,Nat.min_eq_left (by omega)] at this
      exact this
theorem fx_len (n:Nat) (s:St):(fx n s).2.1.length≤s.1.length:=by
  unfold fx
  split
  · exact Nat.le_refl _
  · split
    · exact Nat.le_refl _
    · simp
theorem fx_nil {n:Nat} {s:St} {c:Nat} (h:c = 0→s.1 = []):c = 0→(fx n s).2.1 = []:=by
  intro hc
  have:=h hc
  unfold fx
  split
  · exact this
  · split
    · exact this
    · simp [this]
theorem sameB_code (c c2:Nat) (a b:List UInt8):∃ code,Tryz.f13.body = some code ∧
    Run X (evT X) 13 0 code [(0,.ro c (.pb a) 1),(1,.ro c2 (.pb b) 2)] [] ⟨.ret,[(4,.bool (a == b))],[]⟩:=by
  refine ⟨_,rfl,0,?_⟩
  simp (maxSteps:=2000000) -implicitDefEqProofs [-getElem?_pos,go_sem,eqV,plen,readSl,strOp]
theorem sameB_ev {H:AM.Heap} {a a2:AV} {l m:List UInt8} (h:Byt H a l) (h2:Byt H a2 m):evT X 13 [a,a2] H = some (.bool (l == m),H):=by
  obtain ⟨c2,p2,x2,hp2,_,hx2⟩:=args_byt (C:=X) (f:=13) (i:=1) rfl h2 (args_nil 2)
  obtain ⟨c,p,x,hp,_,hx⟩:=args_byt (C:=X) (f:=13) (i:=0) rfl h hx2
  obtain ⟨code,hcode,hr⟩:=sameB_code c c2 l m
  refine evT_eq (Ev1.toldP (l:=[.bool (l == m)]) (evT_below X) Tryz.func13 hcode hx (by simp [idsL,ids,hp.ids,hp2.ids]) (by simp [gtag]) rfl rfl rfl ?_)
  rw [par13,coB hp,coB hp2]
  exact ⟨_,⟨rfl,rfl⟩,hr⟩
end Go.Proofs.YtafdnpcamepbmaaGreatDoor
namespace Go.Proofs.YtafdnpcamepbmaaGreatDoor
open Go.AM
section
variable (c:Nat) (b:List UInt8) (x n:Nat)
def rafFr (i:Nat):AM.Frame:=[(1,.int .u64 (x:Nat)),(2,.int .i64 (n:Nat)),(8,.sl 1 0 (b.length + i) i),(9,.int .i64 (i:Nat))]
theorem raf_code (hc:c = 0→b = []) (hb:b.length≤90000000) (h1:1≤n) (h8:n≤8) (hx:x < 256 ^ n):∃ code,Tryz.f87.body = some code ∧
    Tells (Rets fun fr H=>∃ o g ob,getF fr 6 = .sl o 0 (b.length + n) g∧getF fr 7 = .int .i64 0∧H[o]? = some (some ob)∧Rw (.pb (b ++ leB n x)) g ob) X (evT X) 87 0 code [(0,.ro c (.pb b) 1),(1,.int .u64 (x:Nat)),(2,.int .i64 (n:Nat))] []:=by
  refine ⟨_,rfl,?_⟩
  have hb0:=fun H=>bs0 H
  have hC:=app_lit (H:=[some nilB]) (m:=b) (src:=.ro c (.pb b) 1) (srcB (.inl rfl)) (by omega)
  have hw0:Rw (.pb b) 0 ⟨.pb b,0,.none,1,true,false,0⟩:=⟨rfl,rfl,rfl,rfl,rfl⟩
  generalize (⟨.pb b,0,.none,1,true,false,0⟩:AM.Obj) = ob0 at *
  have g1:¬ (n:Int) < 1:=by omega
  have g8:¬ (8:Int) < (n:Int):=by omega
  have hz:(n:Int) < 8→Int.fdiv (x:Int) (2 ^ (min (8 * n) 64)) = 0:=by
    intro h
    rw [shr_u64 (by omega),Nat.div_eq_of_lt hx];rfl
  have wn:IntKind.u64.wrap (n:Int) = (n:Int):=wrap_u64 (by omega) (by omega)
  have w8:IntKind.u64.wrap (8 * (n:Int)) = ((8 * n:Nat):Int):=by rw [wrap_u64 (by omega) (by omega)];omega
  have hn0:¬ (((8 * n:Nat):Int) < 0):=by omega
  have hmb:IntKind.u64.bits = 64:=rfl
  apply Tells.seq
  · (refine ⟨0,?_⟩;conv=>lhs;simp (maxSteps:=2000000) -implicitDefEqProofs [-getElem?_pos,go_sem,eqV,plen,assignV,emB])
  apply Tells.seq (fr':=[(0,.ro c (.pb b) 1),(1,.int .u64 (x:Nat)),(2,.int .i64 (n:Nat)),(27,.bool false)]) (H':=[some nilB])
  · by_cases h:(n:Int) < 8
    · have hz:=hz h
      generalize 8 * n = n8 at *
      (refine ⟨0,?_⟩;simp (maxSteps:=2000000) -implicitDefEqProofs [-getElem?_pos,go_sem,eqV,plen,g1,g8,h,hz,wn,w8,hn0,hmb])
    · (refine ⟨0,?_⟩;simp (maxSteps:=2000000) -implicitDefEqProofs [-getElem?_pos,go_sem,eqV,plen,g1,g8,h,hz,wn,w8,hn0,hmb])
  apply Tells.seq (fr':=[(1,.int .u64 (x:Nat)),(2,.int .i64 (n:Nat)),(8,.sl 1 0 b.length 0)]) (H':=[some nilB,some ob0])
  · (refine ⟨0,?_⟩;simp (maxSteps:=2000000) -implicitDefEqProofs [-getElem?_pos,go_sem,eqV,plen,hb0,hC,assignV])
  apply Tells.andThen (P:=fun fr H=>∃ ob,Rw (.pb (b ++ leB n x)) n ob∧fr = rafFr b x n n ++ [(33,.bool false)]∧H = [some nilB,some ob])
  · apply Tells.seq (fr':=rafFr b x n 0) (H':=[some nilB,some ob0])
    · (refine ⟨0,?_⟩;simp (maxSteps:=2000000) -implicitDefEqProofs [-getElem?_pos,go_sem,eqV,plen,rafFr])
    apply Tells.block
    refine Tells.loop (σ:=Nat × AM.Obj) (fun s=>s.1≤n∧Rw (.pb (b ++ leB s.1 x)) s.1 s.2) (fun s=>rafFr b x n s.1) (fun s=>[some nilB,some s.2]) (fun s=>n - s.1) ?_ (0,ob0) ⟨by simp,by simpa [leB] using hw0⟩
    rintro ⟨i,ob⟩ ⟨hi,hw⟩
    simp only at hi hw ⊢
    by_cases hin:i = n
    · right
      subst hin
      refine ⟨⟨.exit 0,rafFr b x i i ++ [(33,.bool false)],[some nilB,some ob]⟩,⟨rfl,ob,hw,rfl,rfl⟩,by simp,?_⟩
      (refine ⟨0,?_⟩;simp (maxSteps:=2000000) -implicitDefEqProofs [-getElem?_pos,go_sem,eqV,plen,rafFr])
    · left
      have hlt:i < 8:=by omega
      have hiI:(i:Int) < (n:Int):=by omega
      have w1:IntKind.i64.wrap ((i:Int) + 1) = ((i + 1:Nat):Int):=by rw [wrap_i64 (by omega) (by omega)];omega
      have wi:IntKind.u64.wrap (i:Int) = (i:Int):=wrap_u64 (by omega) (by omega)
      have w8:IntKind.u64.wrap (8 * (i:Int)) = ((8 * i:Nat):Int):=by rw [wrap_u64 (by omega) (by omega)];omega
      have hn0:¬ (((8 * i:Nat):Int) < 0):=by omega
      have hsh:=shr_u64 (x:=x) hlt
      have hlen:=leB_len i x
      obtain ⟨ob',hw',hA⟩:=app_b (H:=[some nilB,some ob]) (o:=1) (src:=.ro 1 (.pb [UInt8.ofNat (x / 256 ^ i % 256)]) 0) rfl hw (.inl rfl) (by simp [hlen];omega)
      rw [List.append_assoc,← leB_snoc] at hw'
      simp only [List.length_append,hlen,List.length_cons,List.length_nil] at hA
      refine ⟨(i + 1,ob'),⟨by simp only;omega,hw'⟩,?_,by simp only;omega⟩
      have hwb:=wrap_byte (x / 256 ^ i)
      have hbs:=fun H=>bs1 H (UInt8.ofNat (x / 256 ^ i % 256))
      generalize x / 256 ^ i = z at *
      generalize UInt8.ofNat (z % 256) = y at *
      generalize 8 * i = i8 at *
      (refine ⟨0,?_⟩;simp (maxSteps:=2000000) -implicitDefEqProofs [-getElem?_pos,go_sem,eqV,plen,rafFr,hiI,w1,wi,w8,hn0,hmb,hsh,hwb,hbs,hA,upd])
      omega
  · rintro fr H ⟨ob,hw,rfl,rfl⟩
    refine Tells.of (o:=⟨.ret,[(6,.sl 1 0 (b.length + n) n),(7,.int .i64 0)],[some nilB,some ob]⟩) ?_ ⟨rfl,1,n,ob,rfl,rfl,rfl,hw⟩
    refine ⟨0,?_⟩
    simp (maxSteps:=2000000) -implicitDefEqProofs [-getElem?_pos,go_sem,eqV,plen,rafFr,assignV]
end
theorem raf_ev {H:AM.Heap} {a:AV} {b:List UInt8} {x n:Nat} (h:Byt H a b) (hb:b.length≤90000000) (h1:1≤n) (h8:n≤8) (hx:x < 256 ^ n) :
    ∃ ob,Rw (.pb (b ++ leB n x)) 0 ob∧evT X 87 [a,.int .u64 (x:Nat),.int .i64 (n:Nat)] H = some (.tup [.sl H.length 0 (b.length + n) 0,.int .i64 0],H ++ [some ob]):=by
  obtain ⟨c,p,xl,hp,hc,hx'⟩:=args_byt (C:=X) (f:=87) (i:=0) rfl h (args_flat (i:=1) (a:=.int .u64 (x:Nat)) rfl rfl (args_flat (i:=2) (a:=.int .i64 (n:Nat)) rfl rfl (args_nil 3)))
  obtain ⟨code,hcode,hr⟩:=raf_code c b x n hc hb h1 h8 hx
  obtain ⟨ob,q1,q2⟩:=Ev1.newB (H:=H) (n:=b.length + n) (l:=b ++ leB n x) (rest:=[.int .i64 0]) (evT_below X) Tryz.func87 hcode hx' (by simp [idsL,ids,hp.ids]) (by simp [gtag]) rfl rfl rfl (by
    obtain ⟨o,⟨he,o1,g,ob,q1,q2,q3,q4⟩,hrun⟩:=hr
    exact ⟨o,⟨he,o1,g,ob,by show some [getF o.fr 6,getF o.fr 7] = _;rw [q1,q2],q3,q4⟩,by rw [par87,coB hp];exact hrun⟩)
  exact ⟨ob,q1,evT_eq q2⟩
end Go.Proofs.YtafdnpcamepbmaaGreatDoor
namespace Go.Proofs.YtafdnpcamepbmaaGreatDoor
open Go.AM
def aI (x:Nat):List UInt8:=(if (frm x).1 = 0 then [] else [UInt8.ofNat (frm x).1]) ++ leB (frm x).2 x
theorem frm_ok {x:Nat} (hx:x < 18446744073709551616):1≤(frm x).2∧(frm x).2≤8∧x < 256 ^ (frm x).2∧(frm x).1 < 256:=by
  unfold frm
  split
  · simp only [Nat.reducePow];omega
  · split
    · simp only [Nat.reducePow];omega
    · split
      · simp only [Nat.reducePow];omega
      · simp only [Nat.reducePow];omega
theorem aI_len (x:Nat):(aI x).length = szI x:=by
  unfold aI szI frm
  split
  · simp [leB_len]
  · split
    · simp [leB_len]
    · split
      · simp [leB_len]
      · simp [leB_len]
theorem szI_le (x:Nat):1≤szI x∧szI x≤9:=by
  unfold szI;repeat' split
  all_goals omega
section
variable (c:Nat) (b:List UInt8) (x:Nat)
theorem appendInt_code (hc:c = 0→b = []) (hb:b.length≤80000000) (hx:x < 18446744073709551616):∃ code,Tryz.f56.body = some code ∧
    Tells (Rets fun fr H=>∃ o g ob,getF fr 4 = .sl o 0 (b.length + szI x) g∧H[o]? = some (some ob)∧Rw (.pb (b ++ aI x)) g ob) X (evT X) 56 0 code [(0,.ro c (.pb b) 1),(1,.int .u64 (x:Nat))] []:=by
  refine ⟨_,rfl,?_⟩
  obtain ⟨h1,h8,hxn,hf⟩:=frm_ok hx
  have hlen:=aI_len x
  rw [← hlen]
  unfold aI
  obtain ⟨ob0,hw0,hC⟩:=clone_ev (H:=[some nilB]) (a:=.ro c (.pb b) 1) (b:=b) (Byt.ro (.inl rfl) hc) (by omega)
  have hF:=form_ev x [some nilB]
  generalize frm x = r at *
  obtain ⟨q,n⟩:=r
  simp only at h1 h8 hxn hf hF ⊢
  by_cases h0:q = 0
  · subst h0
    obtain ⟨ob1,hw1,hA⟩:=af_ev (H:=[some nilB,some ob0]) (a:=.sl 1 0 b.length 0) (b:=b) (x:=x) (n:=n) (Byt.whole rfl hw0) (by omega) h1 h8 hxn
    refine Tells.of (o:=⟨.ret,[(4,.sl 2 0 (b.length + n) 0)],[some nilB,some ob0,some ob1]⟩) ?_ ⟨rfl,2,0,ob1,by simp [getF,leB_len],rfl,by simpa using hw1⟩
    refine ⟨0,?_⟩
    simp (maxSteps:=2000000) -implicitDefEqProofs [-getElem?_pos,go_sem,eqV,plen,assignV,emB,hF,hC,hA]
  · have h0b:((q:Int) != 0) = true:=by simpa using h0
    have h0i:¬ (q:Int) = 0:=by omega
    rw [if_neg h0]
    have hbs:=fun H=>bs1 H (UInt8.ofNat q)
    have hqn:(UInt8.ofNat q).toNat = q:=by simp;omega
    rw [hqn] at hbs
    obtain ⟨ob',hw',hA1⟩:=app_b (H:=[some nilB,some ob0]) (o:=1) (src:=.ro 1 (.pb [UInt8.ofNat q]) 0) rfl hw0 (.inl rfl) (by simp;omega)
    obtain ⟨ob1,hw1,hA⟩:=af_ev (H:=[some nilB,some ob']) (a:=.sl 1 0 (b ++ [UInt8.ofNat q]).length 1) (b:=b ++ [UInt8.ofNat q]) (x:=x) (n:=n) (Byt.whole rfl hw') (by simp;omega) h1 h8 hxn
    refine Tells.of (o:=⟨.ret,[(4,.sl 2 0 (b.length + 1 + n) 0)],[some nilB,some ob',some ob1]⟩) ?_ ⟨rfl,2,0,ob1,by simp [getF,leB_len];omega,rfl,by simpa using hw1⟩
    refine ⟨0,?_⟩
    simp only [List.length_append,List.length_cons,List.length_nil,Nat.zero_add] at hA1 hA
    simp (maxSteps:=2000000) -implicitDefEqProofs [-getElem?_pos,go_sem,eqV,plen,assignV,emB,hF,hC,h0b,h0i,hbs,hA1,upd,hA]
theorem rappendInt_code (hc:c = 0→b = []) (hb:b.length≤80000000) (hx:x < 18446744073709551616):∃ code,Tryz.f71.body = some code ∧
    Tells (Rets fun fr H=>∃ o g ob,getF fr 4 = .sl o 0 (b.length + szI x) g∧H[o]? = some (some ob)∧Rw (.pb (b ++ aI x)) g ob) X (evT X) 71 0 code [(0,.ro c (.pb b) 1),(1,.int .u64 (x:Nat))] []:=by
  refine ⟨_,rfl,?_⟩
  obtain ⟨h1,h8,hxn,hf⟩:=frm_ok hx
  have hb0:=fun H=>bs0 H
  have hC:=app_lit (H:=[some nilB]) (m:=b) (src:=.ro c (.pb b) 1) (srcB (.inl rfl)) (by omega)
  have hw0:Rw (.pb b) 0 ⟨.pb b,0,.none,1,true,false,0⟩:=⟨rfl,rfl,rfl,rfl,rfl⟩
  generalize (⟨.pb b,0,.none,1,true,false,0⟩:AM.Obj) = ob0 at *
  have hS:=rsize_ev x [some nilB]
  by_cases h1:x≤250
  · have hs:szI x = 1:=by unfold szI;rw [if_pos h1]
    have hai:aI x = [UInt8.ofNat x]:=by unfold aI frm;rw [if_pos h1];simp only [leB,if_true,List.nil_append];rw [Nat.mod_eq_of_lt (by omega)]
    rw [hs] at hS ⊢
    rw [hai]
    have hbs:=fun H=>bs1 H (UInt8.ofNat x)
    have hqn:(UInt8.ofNat x).toNat = x:=by simp;omega
    rw [hqn] at hbs
    have w8:IntKind.u8.wrap (x:Int) = (x:Int):=wrap_u8 (by omega) (by omega)
    obtain ⟨ob',hw',hA1⟩:=app_b (H:=[some nilB,some ob0]) (o:=1) (src:=.ro 1 (.pb [UInt8.ofNat x]) 0) rfl hw0 (.inl rfl) (by simp;omega)
    refine Tells.of (o:=⟨.ret,[(4,.sl 1 0 (b.length + 1) 1)],[some nilB,some ob']⟩) ?_ ⟨rfl,1,1,ob',rfl,rfl,hw'⟩
    refine ⟨0,?_⟩
    simp only [List.length_append,List.length_cons,List.length_nil,Nat.zero_add] at hA1
    simp (maxSteps:=2000000) -implicitDefEqProofs [-getElem?_pos,go_sem,eqV,plen,assignV,emB,hS,hb0,hC,w8,hbs,hA1,upd]
  · obtain ⟨n,q,hn,hq,hsz,hfr⟩:∃ n q:Nat,szI x = n + 1∧q = (frm x).1∧n = (frm x).2∧(n < 8∧q = 250 + n∨n = 8∧q = 254)∧1 < n:=by
      unfold szI frm
      rw [if_neg h1,if_neg h1]
      split
      · exact ⟨2,252,rfl,rfl,rfl,.inl ⟨by omega,rfl⟩,by omega⟩
      · split
        · exact ⟨3,253,rfl,rfl,rfl,.inl ⟨by omega,rfl⟩,by omega⟩
        · exact ⟨8,254,rfl,rfl,rfl,.inr ⟨rfl,rfl⟩,by omega⟩
    obtain ⟨hcs,hn1⟩:=hfr
    have hai:aI x = UInt8.ofNat q :: leB n x:=by unfold aI;rw [← hq,← hsz,if_neg (by omega)];rfl
    rw [hn] at hS ⊢
    rw [hai]
    rw [← hsz] at hxn h8
    have hbs:=fun H=>bs1 H (UInt8.ofNat q)
    have hqn:(UInt8.ofNat q).toNat = q:=by simp;omega
    rw [hqn] at hbs
    have hne:¬ ((n:Int) + 1 = 1):=by omega
    have hneb:((n:Int) + 1 == 1) = false:=by simpa using hne
    have hne1:¬ ((n:Int) = 0):=by omega
    have wn:IntKind.i64.wrap ((n:Int) + 1 - 1) = (n:Int):=by rw [wrap_i64 (by omega) (by omega)];omega
    have wn2:IntKind.i64.wrap (n:Int) = (n:Int):=by rw [wrap_i64 (by omega) (by omega)]
    obtain ⟨ob',hw',hA1⟩:=app_b (H:=[some nilB,some ob0]) (o:=1) (src:=.ro 1 (.pb [UInt8.ofNat q]) 0) rfl hw0 (.inl rfl) (by simp;omega)
    obtain ⟨ob1,hw1,hA⟩:=raf_ev (H:=[some nilB,some ob']) (a:=.sl 1 0 (b ++ [UInt8.ofNat q]).length 1) (b:=b ++ [UInt8.ofNat q]) (x:=x) (n:=n) (Byt.whole rfl hw') (by simp;omega) (by omega) h8 hxn
    refine Tells.of (o:=⟨.ret,[(4,.sl 2 0 (b.length + 1 + n) 0)],[some nilB,some ob',some ob1]⟩) ?_ ⟨rfl,2,0,ob1,by simp [getF];omega,rfl,by simpa using hw1⟩
    refine ⟨0,?_⟩
    simp only [List.length_append,List.length_cons,List.length_nil,Nat.zero_add] at hA1 hA
    clear hqn
    generalize UInt8.ofNat q = y at *
    rcases hcs with ⟨c1,c2⟩ | ⟨c1,c2⟩
    · have hlt:(n:Int) + 1 < 9:=by omega
      have w9:IntKind.i64.wrap (249 + ((n:Int) + 1)) = (q:Int):=by rw [wrap_i64 (by omega) (by omega)];omega
      have w8:IntKind.u8.wrap (q:Int) = (q:Int):=wrap_u8 (by omega) (by omega)
      simp (maxSteps:=2000000) -implicitDefEqProofs [-getElem?_pos,go_sem,eqV,plen,assignV,emB,hS,hb0,hC,hne,hneb,hne1,hlt,w9,w8,wn,wn2,hbs,hA1,upd,hA]
    · subst c1
      subst c2
      simp only [Nat.reduceAdd,Int.cast_ofNat_Int] at *
      simp (maxSteps:=2000000) -implicitDefEqProofs [-getElem?_pos,go_sem,eqV,plen,assignV,emB,hS,hb0,hC,IntKind.wrap,IntKind.bits,IntKind.signed,hbs,hA1,upd,hA]
end
theorem appendInt_ev {H:AM.Heap} {a:AV} {b:List UInt8} {x:Nat} (h:Byt H a b) (hb:b.length≤80000000) (hx:x < 18446744073709551616) :
    ∃ ob,Rw (.pb (b ++ aI x)) 0 ob∧evT X 56 [a,.int .u64 (x:Nat)] H = some (.sl H.length 0 (b.length + szI x) 0,H ++ [some ob]):=by
  obtain ⟨c,p,xl,hp,hc,hx'⟩:=args_byt (C:=X) (f:=56) (i:=0) rfl h (args_flat (i:=1) (a:=.int .u64 (x:Nat)) rfl rfl (args_nil 2))
  obtain ⟨code,hcode,hr⟩:=appendInt_code c b x hc hb hx
  obtain ⟨ob,q1,q2⟩:=Ev1.newB (H:=H) (n:=b.length + szI x) (l:=b ++ aI x) (rest:=[]) (evT_below X) Tryz.func56 hcode hx' (by simp [idsL,ids,hp.ids]) (by simp [gtag]) rfl rfl rfl (by
    obtain ⟨o,⟨he,o1,g,ob,q1,q3,q4⟩,hrun⟩:=hr
    exact ⟨o,⟨he,o1,g,ob,by show some [getF o.fr 4] = _;rw [q1],q3,q4⟩,by rw [par56,coB hp];exact hrun⟩)
  exact ⟨ob,q1,evT_eq q2⟩
theorem rappendInt_ev {H:AM.Heap} {a:AV} {b:List UInt8} {x:Nat} (h:Byt H a b) (hb:b.length≤80000000) (hx:x < 18446744073709551616) :
    ∃ ob,Rw (.pb (b ++ aI x)) 0 ob∧evT X 71 [a,.int .u64 (x:Nat)] H = some (.sl H.length 0 (b.length + szI x) 0,H ++ [some ob]):=by
  obtain ⟨c,p,xl,hp,hc,hx'⟩:=args_byt (C:=X) (f:=71) (i:=0) rfl h (args_flat (i:=1) (a:=.int .u64 (x:Nat)) rfl rfl (args_nil 2))
  obtain ⟨code,hcode,hr⟩:=rappendInt_code c b x hc hb hx
  obtain ⟨ob,q1,q2⟩:=Ev1.newB (H:=H) (n:=b.length + szI x) (l:=b ++ aI x) (rest:=[]) (evT_below X) Tryz.func71 hcode hx' (by simp [idsL,ids,hp.ids]) (by simp [gtag]) rfl rfl rfl (by
    obtain ⟨o,⟨he,o1,g,ob,q1,q3,q4⟩,hrun⟩:=hr
    exact ⟨o,⟨he,o1,g,ob,by show some [getF o.fr 4] = _;rw [q1],q3,q4⟩,by rw [par71,coB hp];exact hrun⟩)
  exact ⟨ob,q1,evT_eq q2⟩
def aT (s:List UInt8):List UInt8:=aI s.length ++ s
section
variable (c:Nat) (b:List UInt8) (s:List UInt8)
theorem appendText_code (hc:c = 0→b = []) (hb:b.length≤40000000) (hs:s.length≤40000000):∃ code,Tryz.f37.body = some code ∧
    Tells (Rets fun fr H=>∃ o g ob,getF fr 4 = .sl o 0 (b ++ aT s).length g∧H[o]? = some (some ob)∧Rw (.pb (b ++ aT s)) g ob) X (evT X) 37 0 code [(0,.ro c (.pb b) 1),(1,.str s)] []:=by
  refine ⟨_,rfl,?_⟩
  have hsz:=szI_le s.length
  have hl:=aI_len s.length
  obtain ⟨ob1,hw1,hA⟩:=appendInt_ev (H:=[some nilB]) (a:=.ro c (.pb b) 1) (b:=b) (x:=s.length) (Byt.ro (.inl rfl) hc) (by omega) (by omega)
  obtain ⟨ob',hw',hA1⟩:=app_b (H:=[some nilB,some ob1]) (o:=1) (m:=s) (src:=.str s) rfl hw1 (.inl rfl) (by simp;omega)
  have w1:IntKind.u64.wrap (s.length:Int) = (s.length:Int):=wrap_u64 (by omega) (by omega)
  simp only [List.length_append,hl] at hA1
  refine Tells.of (o:=⟨.ret,[(4,.sl 1 0 (b.length + szI s.length + s.length) 1)],[some nilB,some ob']⟩) ?_ ⟨rfl,1,1,ob',by simp [getF,aT,hl];omega,rfl,by rw [aT,← List.append_assoc];exact hw'⟩
  refine ⟨0,?_⟩
  simp (maxSteps:=2000000) -implicitDefEqProofs [-getElem?_pos,go_sem,eqV,plen,assignV,emB,w1,hA,hA1,upd]
theorem rappendText_code (hc:c = 0→b = []) (hb:b.length≤40000000) (hs:s.length≤40000000):∃ code,Tryz.f54.body = some code ∧
    Tells (Rets fun fr H=>∃ o g ob,getF fr 4 = .sl o 0 (b ++ aT s).length g∧H[o]? = some (some ob)∧Rw (.pb (b ++ aT s)) g ob) X (evT X) 54 0 code [(0,.ro c (.pb b) 1),(1,.str s)] []:=by
  refine ⟨_,rfl,?_⟩
  have hsz:=szI_le s.length
  have hl:=aI_len s.length
  obtain ⟨ob1,hw1,hA⟩:=rappendInt_ev (H:=[some nilB]) (a:=.ro c (.pb b) 1) (b:=b) (x:=s.length) (Byt.ro (.inl rfl) hc) (by omega) (by omega)
  obtain ⟨ob',hw',hA1⟩:=app_b (H:=[some nilB,some ob1]) (o:=1) (m:=s) (src:=.str s) rfl hw1 (.inl rfl) (by simp;omega)
  have w1:IntKind.u64.wrap (s.length:Int) = (s.length:Int):=wrap_u64 (by omega) (by omega)
  simp only [List.length_append,hl] at hA1
  refine Tells.of (o:=⟨.ret,[(4,.sl 1 0 (b.length + szI s.length + s.length) 1)],[some nilB,some ob']⟩) ?_ ⟨rfl,1,1,ob',by simp [getF,aT,hl];omega,rfl,by rw [aT,← List.append_assoc];exact hw'⟩
  refine ⟨0,?_⟩
  simp (maxSteps:=2000000) -implicitDefEqProofs [-getElem?_pos,go_sem,eqV,plen,assignV,emB,w1,hA,hA1,upd]
end
theorem appendText_ev {H:AM.Heap} {a:AV} {b s:List UInt8} (h:Byt H a b) (hb:b.length≤40000000) (hs:s.length≤40000000) :
    ∃ ob,Rw (.pb (b ++ aT s)) 0 ob∧evT X 37 [a,.str s] H = some (.sl H.length 0 (b ++ aT s).length 0,H ++ [some ob]):=by
  obtain ⟨c,p,xl,hp,hc,hx'⟩:=args_byt (C:=X) (f:=37) (i:=0) rfl h (args_flat (i:=1) (a:=.str s) rfl rfl (args_nil 2))
  obtain ⟨code,hcode,hr⟩:=appendText_code c b s hc hb hs
  obtain ⟨ob,q1,q2⟩:=Ev1.newB (H:=H) (n:=(b ++ aT s).length) (l:=b ++ aT s) (rest:=[]) (evT_below X) Tryz.func37 hcode hx' (by simp [idsL,ids,hp.ids]) (by simp [gtag]) rfl rfl rfl (by
    obtain ⟨o,⟨he,o1,g,ob,q1,q3,q4⟩,hrun⟩:=hr
    exact ⟨o,⟨he,o1,g,ob,by show some [getF o.fr 4] = _;rw [q1],q3,q4⟩,by rw [par37,coB hp];exact hrun⟩)
  exact ⟨ob,q1,evT_eq q2⟩
theorem rappendText_ev {H:AM.Heap} {a:AV} {b s:List UInt8} (h:Byt H a b) (hb:b.length≤40000000) (hs:s.length≤40000000) :
    ∃ ob,Rw (.pb (b ++ aT s)) 0 ob∧evT X 54 [a,.str s] H = some (.sl H.length 0 (b ++ aT s).length 0,H ++ [some ob]):=by
  obtain ⟨c,p,xl,hp,hc,hx'⟩:=args_byt (C:=X) (f:=54) (i:=0) rfl h (args_flat (i:=1) (a:=.str s) rfl rfl (args_nil 2))
  obtain ⟨code,hcode,hr⟩:=rappendText_code c b s hc hb hs
  obtain ⟨ob,q1,q2⟩:=Ev1.newB (H:=H) (n:=(b ++ aT s).length) (l:=b ++ aT s) (rest:=[]) (evT_below X) Tryz.func54 hcode hx' (by simp [idsL,ids,hp.ids]) (by simp [gtag]) rfl rfl rfl (by
    obtain ⟨o,⟨he,o1,g,ob,q1,q3,q4⟩,hrun⟩:=hr
    exact ⟨o,⟨he,o1,g,ob,by show some [getF o.fr 4] = _;rw [q1],q3,q4⟩,by rw [par54,coB hp];exact hrun⟩)
  exact ⟨ob,q1,evT_eq q2⟩
end Go.Proofs.YtafdnpcamepbmaaGreatDoor
namespace Go.Proofs.YtafdnpcamepbmaaGreatDoor
open Go.AM
theorem slMid {c t m n:Nat} {b:List UInt8} (hn:m + n≤b.length) (H:AM.Heap):sliceV X H 22 (.ro c (.pb b) t) (some (.int .i64 (m:Nat))) (some (.int .i64 ((m + n:Nat):Int))) = some (.ro (if c = 0 then 0 else 2) (.pb ((b.drop m).take n)) t):=by
  have h1:((m + n:Nat):Int)≤(b.length:Int):=by omega
  have h2:(m:Int)≤((m + n:Nat):Int):=by omega
  have h3:m + (m + n - m)≤b.length:=by omega
  have h4:m + n - m = n:=by omega
  have h5:(0:Int)≤((m + n:Nat):Int):=by omega
  generalize hk:m + n = k at *
  have h6:m + n≤b.length:=by omega
  simp [sliceV,bound,plen,pesz,psub,h1,h2,h3,h4,h5,h6]
section
variable (c:Nat) (b:List UInt8)
theorem readText_code (hc:c = 0→b = []) (hb:b.length≤90000000):∃ code,Tryz.f17.body = some code ∧
    Run X (evT X) 17 0 code [(0,.ro c (.pb b) 1)] [] ⟨.ret,[(2,.str (rdT b).1),(3,.int .i64 ((rdT b).2.1:Nat)),(4,.int .i64 (rdT b).2.2)],[]⟩:=by
  refine ⟨_,rfl,0,?_⟩
  have hI:=readInt_ev (H:=[]) (a:=.ro c (.pb b) 1) (b:=b) (Byt.ro (.inl rfl) hc) hb
  have hle:=rdI_le (b:=b)
  have hlt:=rdI_lt b
  unfold rdT
  generalize rdI b = r at *
  obtain ⟨x,m,e⟩:=r
  simp only at hI hle hlt ⊢
  by_cases he:e = 0
  · subst he
    obtain ⟨h1,h2⟩:=hle rfl
    rw [if_neg (by simp)]
    have w1:IntKind.i64.wrap ((b.length:Int) - (m:Int)) = ((b.length - m:Nat):Int):=by rw [wrap_i64 (by omega) (by omega)];omega
    have w2:IntKind.u64.wrap ((b.length - m:Nat):Int) = ((b.length - m:Nat):Int):=wrap_u64 (by omega) (by omega)
    by_cases hx:b.length - m < x
    · rw [if_pos hx]
      have hxi:((b.length - m:Nat):Int) < (x:Int):=by omega
      generalize b.length - m = z at *
      simp (maxSteps:=2000000) -implicitDefEqProofs [-getElem?_pos,go_sem,eqV,plen,hI,w1,w2,hxi]
    · rw [if_neg hx]
      have hxi:¬ ((b.length - m:Nat):Int) < (x:Int):=by omega
      have w3:IntKind.i64.wrap (x:Int) = (x:Int):=wrap_i64 (by omega) (by omega)
      have w4:IntKind.i64.wrap ((m:Int) + (x:Int)) = ((m + x:Nat):Int):=by rw [wrap_i64 (by omega) (by omega)];omega
      have hS:=fun H=>slMid (c:=c) (t:=1) (m:=m) (n:=x) (b:=b) (by omega) H
      generalize m + x = k at *
      generalize b.length - m = z at *
      simp (maxSteps:=2000000) -implicitDefEqProofs [-getElem?_pos,go_sem,eqV,plen,hI,w1,w2,hxi,w3,w4,hS,readSl]
  · have heb:(e != 0) = true:=by simpa using he
    rw [if_pos he]
    simp (maxSteps:=2000000) -implicitDefEqProofs [-getElem?_pos,go_sem,eqV,plen,hI,he,heb]
theorem rreadText_code (hc:c = 0→b = []) (hb:b.length≤90000000):∃ code,Tryz.f40.body = some code ∧
    Run X (evT X) 40 0 code [(0,.ro c (.pb b) 1)] [] ⟨.ret,[(2,.str (rdT b).1),(3,.int .i64 ((rdT b).2.1:Nat)),(4,.int .i64 (rdT b).2.2)],[]⟩:=by
  refine ⟨_,rfl,0,?_⟩
  have hI:=rreadInt_ev (H:=[]) (a:=.ro c (.pb b) 1) (b:=b) (Byt.ro (.inl rfl) hc) hb
  have hle:=rdI_le (b:=b)
  have hlt:=rdI_lt b
  unfold rdT
  generalize rdI b = r at *
  obtain ⟨x,m,e⟩:=r
  simp only at hI hle hlt ⊢
  by_cases he:e = 0
  · subst he
    obtain ⟨h1,h2⟩:=hle rfl
    rw [if_neg (by simp)]
    have w1:IntKind.i64.wrap ((b.length:Int) - (m:Int)) = ((b.length - m:Nat):Int):=by rw [wrap_i64 (by omega) (by omega)];omega
    have w2:IntKind.u64.wrap ((b.length - m:Nat):Int) = ((b.length - m:Nat):Int):=wrap_u64 (by omega) (by omega)
    by_cases hx:b.length - m < x
    · rw [if_pos hx]
      have hxi:((b.length - m:Nat):Int) < (x:Int):=by omega
      generalize b.length - m = z at *
      simp (maxSteps:=2000000) -implicitDefEqProofs [-getElem?_pos,go_sem,eqV,plen,hI,w1,w2,hxi]
    · rw [if_neg hx]
      have hxi:¬ ((b.length - m:Nat):Int) < (x:Int):=by omega
      have w3:IntKind.i64.wrap (x:Int) = (x:Int):=wrap_i64 (by omega) (by omega)
      have w4:IntKind.i64.wrap ((m:Int) + (x:Int)) = ((m + x:Nat):Int):=by rw [wrap_i64 (by omega) (by omega)];omega
      have hS:=fun H=>slMid (c:=c) (t:=1) (m:=m) (n:=x) (b:=b) (by omega) H
      generalize m + x = k at *
      generalize b.length - m = z at *
      simp (maxSteps:=2000000) -implicitDefEqProofs [-getElem?_pos,go_sem,eqV,plen,hI,w1,w2,hxi,w3,w4,hS,readSl]
  · have heb:(e != 0) = true:=by simpa using he
    rw [if_pos he]
    simp (maxSteps:=2000000) -implicitDefEqProofs [-getElem?_pos,go_sem,eqV,plen,hI,he,heb]
end
theorem readText_ev {H:AM.Heap} {a:AV} {b:List UInt8} (h:Byt H a b) (hb:b.length≤90000000) :
    evT X 17 [a] H = some (.tup [.str (rdT b).1,.int .i64 ((rdT b).2.1:Nat),.int .i64 (rdT b).2.2],H):=by
  obtain ⟨c,p,xl,hp,hc,hx'⟩:=args_byt (C:=X) (f:=17) (i:=0) rfl h (args_nil 1)
  obtain ⟨code,hcode,hr⟩:=readText_code c b hc hb
  refine evT_eq (Ev1.toldP (l:=[.str (rdT b).1,.int .i64 ((rdT b).2.1:Nat),.int .i64 (rdT b).2.2]) (evT_below X) Tryz.func17 hcode hx' (by simp [idsL,ids,hp.ids]) (by simp [gtag]) rfl rfl rfl ?_)
  rw [par17,coB hp]
  exact ⟨_,⟨rfl,rfl⟩,hr⟩
theorem rreadText_ev {H:AM.Heap} {a:AV} {b:List UInt8} (h:Byt H a b) (hb:b.length≤90000000) :
    evT X 40 [a] H = some (.tup [.str (rdT b).1,.int .i64 ((rdT b).2.1:Nat),.int .i64 (rdT b).2.2],H):=by
  obtain ⟨c,p,xl,hp,hc,hx'⟩:=args_byt (C:=X) (f:=40) (i:=0) rfl h (args_nil 1)
  obtain ⟨code,hcode,hr⟩:=rreadText_code c b hc hb
  refine evT_eq (Ev1.toldP (l:=[.str (rdT b).1,.int .i64 ((rdT b).2.1:Nat),.int .i64 (rdT b).2.2]) (evT_below X) Tryz.func40 hcode hx' (by simp [idsL,ids,hp.ids]) (by simp [gtag]) rfl rfl rfl ?_)
  rw [par40,coB hp]
  exact ⟨_,⟨rfl,rfl⟩,hr⟩
end Go.Proofs.YtafdnpcamepbmaaGreatDoor
namespace Go.Proofs.YtafdnpcamepbmaaGreatDoor
open Go.AM
def nmC (k:Nat):List UInt8:=match k with
  | 0=>[100,101,99,105,109,97,108]
  | 1=>[116,105,110,121]
  | 2=>[115,104,111,114,116]
  | 3=>[108,111,110,103]
  | 4=>[102,108,111,97,116]
  | 5=>[100,111,117,98,108,101]
  | 6=>[110,117,108,108]
  | 7=>[116,105,109,101,115,116,97,109,112]
  | 8=>[108,111,110,103,45,108,111,110,103]
  | 9=>[105,110,116,50,52]
  | 10=>[100,97,116,101]
  | 11=>[116,105,109,101]
  | 12=>[100,97,116,101,45,116,105,109,101]
  | 13=>[121,101,97,114]
  | 15=>[118,97,114,45,99,104,97,114]
  | 16=>[98,105,116]
  | 245=>[106,115,111,110]
  | 246=>[110,101,119,45,100,101,99,105,109,97,108]
  | 247=>[101,110,117,109]
  | 248=>[115,101,116]
  | 249=>[116,105,110,121,45,98,108,111,98]
  | 250=>[109,101,100,105,117,109,45,98,108,111,98]
  | 251=>[108,111,110,103,45,98,108,111,98]
  | 252=>[98,108,111,98]
  | 253=>[118,97,114,45,115,116,114,105,110,103]
  | 254=>[115,116,114,105,110,103]
  | 255=>[103,101,111,109,101,116,114,121]
  | _=>[]
def kn (k:Nat):Bool:=!(nmC k).isEmpty
def nmL:List AV:=(List.range 256).map fun k=>.str (nmC k)
section
variable (k:Nat)
end
section
variable (k:Nat)
end
end Go.Proofs.YtafdnpcamepbmaaGreatDoor
