/- X7 to VG: texts of this claim, one behind the other; what each shows stands at its head. -/
import Derived.Test.YtafdnpcamepbmaaAm4
import Derived.Test.YtafdnpcamepbmaaMg6
/- Walks: lives; small. -/
namespace Go.Proofs.Ytafdnpcamepbmaa
open Go.AM
set_option linter.unusedSimpArgs false
set_option linter.unusedVariables false

theorem lives_ev (H : AM.Heap) : evT X 5 [] H = some (.bool true, H) :=
  evT_eq (Ev1.triedP (T := fun _ _ _ => none) Below.none (n := 400) (f := 5) (args := []) (v := .bool true) (by kernel_rfl) rfl H)

/-- the texts' lengths -/
def sumV (l : List Va) : Nat := (l.map fun v => v.t.length).sum
def smR (l : List Va) (ts : List Ty) : Bool := decide (l.length ≤ 60) && (decide (ts.length ≤ 60) && decide (sumV (l.take 61) ≤ 3000))

theorem sumV_le {l : List Va} (h : ∀ p ∈ l, p.t.length ≤ 1048576) : ∀ i, sumV (l.take i) ≤ 1048576 * i
  | 0 => by simp [sumV]
  | i + 1 => by
    have := sumV_le h i
    rw [List.take_add_one]
    cases hp : l[i]? with
    | none => simp only [Option.toList_none, List.append_nil]; omega
    | some p =>
      have := h p (List.mem_of_getElem? hp)
      simp only [Option.toList_some, sumV, List.map_append, List.sum_append, List.map_cons, List.map_nil, List.sum_cons, List.sum_nil] at *
      omega

section
variable (d t : Nat) (l : List Va) (e u : Nat) (ts : List Ty)

def smFr (i : Nat) : AM.Frame := [(0, .ro d (.pr 12 (l.map Va.pay)) t), (1, .ro e (.pr 2 (ts.map Ty.pay)) u), (5, .int .i64 (sumV (l.take i) : Nat)), (6, .int .i64 (i : Nat))]

set_option maxRecDepth 100000 in
set_option maxHeartbeats 4000000 in
theorem small_code (hl : ∀ p ∈ l, p.t.length ≤ 1048576) : ∃ code, Try.f6.body = some code ∧
    Tells (Rets fun fr H => getF fr 4 = .bool (smR l ts)) X (evT X) 6 0 code [(0, .ro d (.pr 12 (l.map Va.pay)) t), (1, .ro e (.pr 2 (ts.map Ty.pay)) u)] [] := by
  refine ⟨_, rfl, ?_⟩
  have hLl : (l.map Va.pay).length = l.length := List.length_map _
  have hTl : (ts.map Ty.pay).length = ts.length := List.length_map _
  apply Tells.seq (fr' := [(0, .ro d (.pr 12 (l.map Va.pay)) t), (1, .ro e (.pr 2 (ts.map Ty.pay)) u)]) (H' := [])
  · generalize l.map Va.pay = L at *
    generalize ts.map Ty.pay = T at *
    (refine ⟨0, ?_⟩; simp (maxSteps := 2000000) -implicitDefEqProofs [-getElem?_pos, List.getElem?_cons_zero, List.getElem?_cons_succ, go_sem, eqV, plen, loadV, storeV])
  apply Tells.seq (fr' := [(0, .ro d (.pr 12 (l.map Va.pay)) t), (1, .ro e (.pr 2 (ts.map Ty.pay)) u), (5, .int .i64 0)]) (H' := [])
  · generalize l.map Va.pay = L at *
    generalize ts.map Ty.pay = T at *
    (refine ⟨0, ?_⟩; simp (maxSteps := 2000000) -implicitDefEqProofs [-getElem?_pos, List.getElem?_cons_zero, List.getElem?_cons_succ, go_sem, eqV, plen, loadV, storeV])
  apply Tells.assoc
  apply Tells.seq (fr' := smFr d t l e u ts 0) (H' := [])
  · unfold smFr
    generalize l.map Va.pay = L at *
    generalize ts.map Ty.pay = T at *
    (refine ⟨0, ?_⟩; simp (maxSteps := 2000000) -implicitDefEqProofs [-getElem?_pos, List.getElem?_cons_zero, List.getElem?_cons_succ, go_sem, eqV, plen, loadV, storeV, sumV])
  apply Tells.andThen (P := fun fr H => H = [] ∧ fr = smFr d t l e u ts (min l.length 61) ++ [(14, .bool false)])
  · apply Tells.block
    refine Tells.loopP (fun k fr H => ∃ i, k = 61 - i ∧ i ≤ 61 ∧ i ≤ l.length ∧ H = [] ∧ fr = smFr d t l e u ts i) ?_ (k := 61) ⟨0, rfl, by omega, by omega, rfl, rfl⟩
    rintro k fr H ⟨i, rfl, hi, hil, rfl, rfl⟩
    have hs := sumV_le hl i
    apply Tells.assoc
    by_cases hin : i = l.length
    · refine Tells.of (o := ⟨.exit 0, smFr d t l e u ts i ++ [(14, .bool false)], []⟩) ⟨0, ?_⟩ (.inr ⟨by simp, rfl, rfl, by rw [show min l.length 61 = i by omega]⟩)
      have hni : ¬ (i : Int) < (l.length : Int) := by omega
      unfold smFr
      generalize l.map Va.pay = L at *
      generalize ts.map Ty.pay = T at *
      generalize sumV (l.take i) = n at *
      simp (maxSteps := 2000000) -implicitDefEqProofs [-getElem?_pos, List.getElem?_cons_zero, List.getElem?_cons_succ, go_sem, eqV, plen, loadV, storeV, hLl, hni]
    have hiI : (i : Int) < (l.length : Int) := by omega
    by_cases h61 : i = 61
    · refine Tells.of (o := ⟨.exit 0, smFr d t l e u ts i ++ [(14, .bool false)], []⟩) ⟨0, ?_⟩ (.inr ⟨by simp, rfl, rfl, by rw [show min l.length 61 = i by omega]⟩)
      have hni : ¬ (i : Int) ≤ 60 := by omega
      unfold smFr
      generalize l.map Va.pay = L at *
      generalize ts.map Ty.pay = T at *
      generalize sumV (l.take i) = n at *
      simp (maxSteps := 2000000) -implicitDefEqProofs [-getElem?_pos, List.getElem?_cons_zero, List.getElem?_cons_succ, go_sem, eqV, plen, loadV, storeV, hLl, hiI, hni]
    have h60 : (i : Int) ≤ 60 := by omega
    obtain ⟨p, hp⟩ : ∃ p, l[i]? = some p := ⟨_, List.getElem?_eq_getElem (show i < l.length by omega)⟩
    have hlt : i < l.length := by omega
    have hrow : (l.map Va.pay)[i]? = some p.pay := by rw [List.getElem?_map, hp]; rfl
    have hpl := hl p (List.mem_of_getElem? hp)
    have hsn : sumV (l.take (i + 1)) = sumV (l.take i) + p.t.length := by
      rw [List.take_add_one, hp]; simp [sumV]
    have w1 : IntKind.i64.wrap ((i : Int) + 1) = ((i + 1 : Nat) : Int) := by rw [wrap_i64 (by omega) (by omega)]; omega
    have w2 : IntKind.i64.wrap ((sumV (l.take i) : Nat) + (p.t.length : Int)) = ((sumV (l.take (i + 1)) : Nat) : Int) := by
      rw [hsn, wrap_i64 (by omega) (by omega)]; omega
    refine Tells.of (o := ⟨.normal, smFr d t l e u ts (i + 1), []⟩) ⟨0, ?_⟩ (.inl ⟨rfl, 61 - (i + 1), by omega, i + 1, rfl, by omega, by omega, rfl, rfl⟩)
    unfold smFr
    generalize l.map Va.pay = L at *
    generalize ts.map Ty.pay = T at *
    generalize sumV (l.take (i + 1)) = n1 at *
    generalize sumV (l.take i) = n at *
    simp only [Va.pay] at hrow
    simp (maxSteps := 2000000) -implicitDefEqProofs [-getElem?_pos, List.getElem?_cons_zero, List.getElem?_cons_succ, go_sem, eqV, plen, loadV, storeV, hLl, hiI, h60, hlt, hrow, w1, w2]
  rintro fr H ⟨rfl, rfl⟩
  have hsm : smR l ts = (decide (l.length ≤ 60) && (decide (ts.length ≤ 60) && decide (sumV (l.take (min l.length 61)) ≤ 3000))) := by
    unfold smR
    by_cases h : l.length ≤ 60
    · rw [show min l.length 61 = l.length by omega, List.take_length, List.take_of_length_le (by omega)]
    · simp [h]
  refine Tells.of (o := ⟨.ret, [(4, .bool (smR l ts))], []⟩) ⟨0, ?_⟩ ⟨rfl, rfl⟩
  rw [hsm]
  unfold smFr
  generalize l.map Va.pay = L at *
  generalize ts.map Ty.pay = T at *
  generalize sumV (l.take (min l.length 61)) = n at *
  generalize min l.length 61 = m at *
  by_cases h : l.length ≤ 60
  · have hi : (l.length : Int) ≤ 60 := by omega
    by_cases h2 : ts.length ≤ 60
    · have h2i : (ts.length : Int) ≤ 60 := by omega
      by_cases h3 : n ≤ 3000
      · have h3i : (n : Int) ≤ 3000 := by omega
        simp (maxSteps := 2000000) -implicitDefEqProofs [-getElem?_pos, List.getElem?_cons_zero, List.getElem?_cons_succ, go_sem, eqV, plen, loadV, storeV, hLl, hTl, hi, h, h2, h2i, h3, h3i]
      · have h3i : ¬ (n : Int) ≤ 3000 := by omega
        simp (maxSteps := 2000000) -implicitDefEqProofs [-getElem?_pos, List.getElem?_cons_zero, List.getElem?_cons_succ, go_sem, eqV, plen, loadV, storeV, hLl, hTl, hi, h, h2, h2i, h3, h3i]
    · have h2i : ¬ (ts.length : Int) ≤ 60 := by omega
      simp (maxSteps := 2000000) -implicitDefEqProofs [-getElem?_pos, List.getElem?_cons_zero, List.getElem?_cons_succ, go_sem, eqV, plen, loadV, storeV, hLl, hTl, hi, h, h2, h2i]
  · have hi : ¬ (l.length : Int) ≤ 60 := by omega
    simp (maxSteps := 2000000) -implicitDefEqProofs [-getElem?_pos, List.getElem?_cons_zero, List.getElem?_cons_succ, go_sem, eqV, plen, loadV, storeV, hLl, hi, h]

end

theorem small_ev {H : AM.Heap} {A B : AV} {l : List Va} {ts : List Ty} (hA : RoV H A l) (hB : RoT H B ts) (hl : ∀ p ∈ l, p.t.length ≤ 1048576) :
    evT X 6 [A, B] H = some (.bool (smR l ts), H) := by
  obtain ⟨e, pt, xt, hpt, he, hxt⟩ := args_t (f := 6) (i := 1) rfl hB (args_nil 2)
  obtain ⟨d, pv, xv, hpv, hd, hxv⟩ := args_v (f := 6) (i := 0) rfl hA hxt
  obtain ⟨code, hcode, o, ⟨he, h2⟩, hr⟩ := small_code d 1 l e 2 ts hl
  exact evT_eq (Ev1.toldP (l := [.bool (smR l ts)]) (evT_below X) Try.func6 hcode hxv (by simp [idsL, ids, hpv.ids, hpt.ids]) (by simp [gtag]) rfl rfl rfl ⟨o, ⟨he, by show some [getF o.fr 4] = _; rw [h2]⟩, by rw [par6, coV hpv, coT hpt, coerce_nil]; exact hr⟩)

/-! how long what is written may be -/

theorem sizeN_le (t : Nat) : sizeN t ≤ 8 := by
  unfold sizeN
  repeat' split
  all_goals omega

theorem whB_le (w : Wh) (t : Nat) : (whB w t).length ≤ 13 := by
  have h1 : (clB w).length = 3 := rfl
  have h2 : (usB w).length ≤ 4 := by unfold usB; split <;> simp [leB_len]
  unfold whB spB moB
  repeat' split
  all_goals simp [leB_len]
  all_goals omega

theorem aT_le (s : List UInt8) : (aT s).length ≤ s.length + 9 := by
  unfold aT
  rw [List.length_append, aI_len]
  unfold szI
  repeat' split
  all_goals omega

theorem enV_le (v : Va) (t : Ty) : (enV v t).length ≤ v.t.length + 13 := by
  have h1 := sizeN_le t.t
  have h2 := whB_le v.w t.t
  have h3 := aT_le v.t
  unfold enV
  repeat' split
  all_goals (try rw [leB_len])
  all_goals (try simp only [List.length_nil])
  all_goals omega

theorem restB_sum : ∀ (l : List Va) (ts : List Ty), (restB (zr l ts)).length ≤ sumV l + 13 * l.length
  | [], _ => by simp [restB, sumV, zr]
  | v :: l, [] => by simp [restB, zr]
  | v :: l, t :: ts => by
    have h := restB_sum l ts
    have h2 := enV_le v t
    have h3 : (paE ⟨t, false, v⟩).length ≤ v.t.length + 13 := by unfold paE; split <;> first | omega | (simp only [List.length_nil]; omega)
    have e1 : (restB (zr (v :: l) (t :: ts))).length = (paE ⟨t, false, v⟩).length + (restB (zr l ts)).length := by simp [restB, zr]
    have e2 : sumV (v :: l) = v.t.length + sumV l := by simp [sumV]
    rw [e1, e2, List.length_cons]; omega

theorem txR_sum : ∀ (l : List Va), (txR l).length ≤ sumV l + 9 * l.length
  | [] => by simp [txR, sumV]
  | v :: l => by
    have h := txR_sum l
    have h2 := aT_le v.t
    have h3 : (txV v).length ≤ v.t.length + 9 := by unfold txV; split <;> first | omega | (simp only [List.length_cons, List.length_nil]; omega)
    have e1 : (txR (v :: l)).length = (txV v).length + (txR l).length := by simp [txR]
    have e2 : sumV (v :: l) = v.t.length + sumV l := by simp [sumV]
    rw [e1, e2, List.length_cons]; omega

theorem sm_rest {l : List Va} {ts : List Ty} (h : smR l ts = true) : l.length ≤ 60 ∧ ts.length ≤ 60 ∧ (restB (zr l ts)).length ≤ 4000 ∧ (txR l).length ≤ 4000 := by
  unfold smR at h
  simp only [Bool.and_eq_true, decide_eq_true_eq] at h
  obtain ⟨h1, h2, h3⟩ := h
  rw [List.take_of_length_le (by omega)] at h3
  have := restB_sum l ts
  have := txR_sum l
  exact ⟨h1, h2, by omega, by omega⟩

end Go.Proofs.Ytafdnpcamepbmaa

/- Walks: a binary row written. -/
namespace Go.Proofs.Ytafdnpcamepbmaa
open Go.AM
set_option linter.unusedSimpArgs false
set_option linter.unusedVariables false

section
variable (c : Nat) (b : List UInt8) (d : Nat) (l : List Va) (e : Nat) (ts : List Ty) (K m8 : Nat)

/-- a round's frame -/
def bnFr (i o : Nat) : AM.Frame := [(2, .ro e (.pr 2 (ts.map Ty.pay)) 3), (10, .sl K 0 (b.length + 1) 1), (11, .sl (K + 1) 0 m8 0), (12, .sl o 0 (restB ((zr l ts).take i)).length 0), (47, .ro d (.pr 12 (l.map Va.pay)) 2), (48, .int .i64 (l.length : Nat)), (49, .int .i64 (i : Nat))]
def bnHp (ob0 : AM.Obj) (i o : Nat) (H : AM.Heap) : Prop :=
  ∃ obr, H[K]? = some (some ob0) ∧ H[K + 1]? = some (some (bitO m8 (bitN (nulP (zr l ts)) 2 (zer m8) i))) ∧ K + 2 ≤ o ∧ H[o]? = some (some obr) ∧ Rw (.pb (restB ((zr l ts).take i))) 0 obr

set_option maxRecDepth 100000 in
set_option maxHeartbeats 4000000 in
theorem bn_round (ob0 : AM.Obj) (i o : Nat) (v : Va) (t : Ty) (H : AM.Heap) (hn : l.length ≤ 4096) (hnt : l.length = ts.length) (hm : l.length + 2 ≤ 8 * m8) (hR : (restB (zr l ts)).length ≤ 1000000) (hv : l[i]? = some v) (ht : ts[i]? = some t) (h256 : t.t < 256) (hok : v.okR) (hck : chkV v t = 0) (hH : bnHp l ts K m8 ob0 i o H) :
    ∃ code, ((Try.f11.body).bind (codeAt [1, 1, 1, 1, 1, 1, 1, 0, 1, 0, 0, 1, 1])) = some code ∧
      Tells (Goes fun fr H' => ∃ o', fr = bnFr b d l e ts K m8 (i + 1) o' ∧ bnHp l ts K m8 ob0 (i + 1) o' H') X (evT X) 11 0 code (bnFr b d l e ts K m8 i o ++ [(50, .bool true)]) H := by
  refine ⟨_, rfl, ?_⟩
  obtain ⟨obr, h0, h1, hoK, h3, hr⟩ := hH
  have hlt := at_lt hv
  have hltT := at_lt ht
  have hLl : (l.map Va.pay).length = l.length := List.length_map _
  have hTl : (ts.map Ty.pay).length = ts.length := List.length_map _
  have hrow : (l.map Va.pay)[i]? = some v.pay := by rw [List.getElem?_map, hv]; rfl
  have hrowT : (ts.map Ty.pay)[i]? = some t.pay := by rw [List.getElem?_map, ht]; rfl
  have hiI : (i : Int) < (l.length : Int) := by omega
  have hiT : (i : Int) < (ts.length : Int) := by omega
  have hz := zr_at hv ht
  have hcat := take_cat paE hz
  have hrb : restB ((zr l ts).take (i + 1)) = restB ((zr l ts).take i) ++ paE ⟨t, false, v⟩ := hcat
  have hnul : nulP (zr l ts) i = decide (v.k = 0) := nul_at hz rfl
  have hrl := restB_le (zr l ts) i
  have w1 : IntKind.i64.wrap ((i : Int) + 1) = ((i + 1 : Nat) : Int) := by rw [wrap_i64 (by omega) (by omega)]; omega
  have hnew : ∀ x : Option AM.Obj, (H ++ [x])[H.length]? = some x := fun x => by simp
  have hoL := at_lt h3
  have hKL := at_lt h1
  by_cases hk : v.k = 0
  · have he : paE ⟨t, false, v⟩ = [] := if_pos (.inr hk)
    rw [he, List.append_nil] at hrb
    have hbl := bitN_len (nulP (zr l ts)) 2 (zer m8) i
    have hzl : (zer m8).length = m8 := by simp [zer]
    have hi8 : (i + 2) / 8 < (bitN (nulP (zr l ts)) 2 (zer m8) i).length := by omega
    have hnx : bitN (nulP (zr l ts)) 2 (zer m8) (i + 1) = (bitN (nulP (zr l ts)) 2 (zer m8) i).set ((i + 2) / 8) (orB ((bitN (nulP (zr l ts)) 2 (zer m8) i).getD ((i + 2) / 8) 0) ((i + 2) % 8)) := by
      rw [bitN, hnul, hk]; rfl
    have hfin : bnHp l ts K m8 ob0 (i + 1) o (upd (H ++ [some (vaO v)]) (K + 1) (some (bitO m8 (bitN (nulP (zr l ts)) 2 (zer m8) (i + 1))))) :=
      ⟨obr, at_ne (at_cat h0) (by omega), at_set (at_cat h1), hoK, at_ne (at_cat h3) (by omega), by rw [hrb]; exact hr⟩
    refine Tells.of (o := ⟨.normal, bnFr b d l e ts K m8 (i + 1) o, _⟩) ?_ ⟨rfl, o, rfl, hfin⟩
    unfold bnFr
    rw [hrb, hnx]
    have h1' := at_cat (r := [some (vaO v)]) h1
    generalize bitN (nulP (zr l ts)) 2 (zer m8) i = bs at *
    obtain ⟨y, hy⟩ : ∃ y, bs[(i + 2) / 8]? = some y := ⟨_, List.getElem?_eq_getElem hi8⟩
    rw [show bs.getD ((i + 2) / 8) 0 = y by rw [List.getD, hy]; rfl]
    have hor := or_bit (y := y) (j := (i + 2) % 8) (Nat.mod_lt _ (by omega))
    have hsh := shl1 (j := (i + 2) % 8) (Nat.mod_lt _ (by omega))
    have w2 : IntKind.i64.wrap ((i : Int) + 2) = ((i + 2 : Nat) : Int) := by rw [wrap_i64 (by omega) (by omega)]; omega
    have e1 : Int.tdiv ((i + 2 : Nat) : Int) 8 = (((i + 2) / 8 : Nat) : Int) := by rw [Int.tdiv_eq_ediv_of_nonneg (by omega)]; omega
    have e2 : Int.tmod ((i + 2 : Nat) : Int) 8 = (((i + 2) % 8 : Nat) : Int) := by rw [Int.tmod_eq_emod_of_nonneg (by omega)]; omega
    have e3 : ((i + 2 : Nat) : Int) / 8 = (((i + 2) / 8 : Nat) : Int) := by omega
    have e4 : ((i + 2 : Nat) : Int) % 8 = (((i + 2) % 8 : Nat) : Int) := by omega
    have wq : IntKind.i64.wrap (((i + 2) / 8 : Nat) : Int) = (((i + 2) / 8 : Nat) : Int) := wrap_i64 (by omega) (by omega)
    have hb8 : (i + 2) / 8 < m8 := by omega
    have hb8i : (((i + 2) / 8 : Nat) : Int) < (m8 : Int) := by omega
    have hr0 : ¬ (((i + 2) % 8 : Nat) : Int) < 0 := by omega
    have hr8 : (i + 2) % 8 < 8 := Nat.mod_lt _ (by omega)
    have yo : UInt8.ofNat (orB y ((i + 2) % 8)).toNat = orB y ((i + 2) % 8) := by simp
    have yl : ((orB y ((i + 2) % 8)).toNat : Int) < 256 := by have := (orB y ((i + 2) % 8)).toNat_lt; omega
    generalize (i + 2) / 8 = q at *
    generalize (i + 2) % 8 = r at *
    generalize i + 2 = j at *
    generalize orB y r = z at *
    generalize 2 ^ r = pw at *
    have hor2 := hor
    simp only [go_sem] at hor2
    simp only [BitVec.toNat_or] at hor
    generalize (restB ((zr l ts).take i)).length = nr at *
    generalize l.map Va.pay = L at *
    generalize ts.map Ty.pay = T at *
    simp only [vaO, Va.pay] at hrow h1'
    simp only [hk] at hrow h1'
    refine ⟨0, ?_⟩
    simp (maxSteps := 2000000) -implicitDefEqProofs [-getElem?_pos, List.getElem?_cons_zero, List.getElem?_cons_succ, go_sem, eqV, plen, loadV, storeV, hlt, hiI, hLl, hrow, vaO, Va.pay, hk, retagL, retag, retagP, flatCells, splice, scalars, scalar, hnew, mkVa, w1, w2, h1', bitO, e1, e2, e3, e4, wq, hb8, hb8i, hi8, hy, hsh, hr0, hor, hor2, yo, yl, show IntKind.u8.bits = 8 from rfl]
  · have hkb : (v.k == 0) = false := by simpa using hk
    obtain ⟨ob1, hw1, hA⟩ := vappend_ev (v := v) (t := t) (Byt.whole (at_cat (r := [some (vaO v)]) h3) hr) (by omega) h256 hok.1 hok.2
    have hap : apV (restB ((zr l ts).take i)) v t = (restB ((zr l ts).take (i + 1)), 0) := by
      unfold apV
      rw [if_pos (by unfold apOk; rw [hck]; simp [hk]), hrb]
      unfold paE
      rw [if_neg (by simp [hk])]
    rw [hap] at hA hw1
    have hfin : bnHp l ts K m8 ob0 (i + 1) (H.length + 1) (H ++ [some (vaO v)] ++ [some ob1]) :=
      ⟨ob1, at_cat (at_cat h0), by unfold bitN; rw [hnul]; simp only [hk, decide_false, Bool.false_eq_true, if_false]; exact at_cat (at_cat h1), by omega, by simp, hw1⟩
    refine Tells.of (o := ⟨.normal, bnFr b d l e ts K m8 (i + 1) (H.length + 1), _⟩) ⟨0, ?_⟩ ⟨rfl, _, rfl, hfin⟩
    unfold bnFr
    generalize (restB ((zr l ts).take (i + 1))).length = n1 at *
    generalize (restB ((zr l ts).take i)).length = nr at *
    generalize l.map Va.pay = L at *
    generalize ts.map Ty.pay = T at *
    simp only [vaO, Va.pay, Ty.pay] at hA hrow hrowT
    simp (maxSteps := 2000000) -implicitDefEqProofs [-getElem?_pos, List.getElem?_cons_zero, List.getElem?_cons_succ, go_sem, eqV, plen, loadV, storeV, hlt, hiI, hLl, hrow, hltT, hiT, hTl, hrowT, vaO, Va.pay, hkb, retagL, retag, retagP, flatCells, splice, scalars, scalar, hnew, mkVa, mkTy, hA, w1, assignV]

end

end Go.Proofs.Ytafdnpcamepbmaa

/- Walks: a binary row written: whole. -/
namespace Go.Proofs.Ytafdnpcamepbmaa
open Go.AM
set_option linter.unusedSimpArgs false
set_option linter.unusedVariables false

def bcFr (A L T : AV) (n i : Nat) : AM.Frame := [(0, A), (1, L), (2, T), (23, L), (24, .int .i64 (n : Nat)), (25, .int .i64 (i : Nat))]

theorem zr_bad {l : List Va} {ts : List Ty} {i : Nat} {v : Va} {t : Ty} (h1 : l[i]? = some v) (h2 : ts[i]? = some t) (h : chkV v t ≠ 0) : (zr l ts).any Pm.bad = true :=
  List.any_eq_true.2 ⟨_, List.mem_of_getElem? (zr_at h1 h2), by unfold Pm.bad; simp [h]⟩
theorem zr_fine {l : List Va} {ts : List Ty} (hn : l.length = ts.length) (h : ∀ (i : Nat) (v : Va) (t : Ty), l[i]? = some v → ts[i]? = some t → chkV v t = 0) : ¬ (zr l ts).any Pm.bad = true := by
  intro hx
  obtain ⟨p, hp, hb⟩ := List.any_eq_true.1 hx
  obtain ⟨i, hi⟩ := List.mem_iff_getElem?.1 hp
  have hlt := at_lt hi
  rw [zr_len hn] at hlt
  obtain ⟨v, hv⟩ : ∃ p, l[i]? = some p := ⟨_, List.getElem?_eq_getElem hlt⟩
  obtain ⟨t, ht⟩ : ∃ p, ts[i]? = some p := ⟨_, List.getElem?_eq_getElem (by omega)⟩
  rw [zr_at hv ht] at hi
  obtain rfl := Option.some.inj hi
  unfold Pm.bad at hb
  simp [h i v t hv ht] at hb

section
variable (c : Nat) (b : List UInt8) (d : Nat) (l : List Va) (e : Nat) (ts : List Ty)

set_option maxRecDepth 100000 in
set_option maxHeartbeats 4000000 in
theorem bc_loop (A : AV) (H : AM.Heap) (hl : ∀ v ∈ l, v.okR) (ht : ∀ t ∈ ts, t.t < 256) (hn : l.length ≤ 4096) (hnt : l.length = ts.length) :
    ∃ code, ((Try.f11.body).bind (codeAt [1, 1, 1, 0, 1])) = some code ∧
      Tells (Or2 (fun fr H => (∀ (i : Nat) (v : Va) (t : Ty), l[i]? = some v → ts[i]? = some t → chkV v t = 0) ∧ fr = bcFr A (.ro d (.pr 12 (l.map Va.pay)) 2) (.ro e (.pr 2 (ts.map Ty.pay)) 3) l.length l.length ++ [(26, .bool false)]) (fun out => out.ex = .ret ∧ (zr l ts).any Pm.bad = true ∧ ∃ o, getF out.fr 6 = .sl o 0 0 0 ∧ getF out.fr 7 = .int .i64 2 ∧ out.H[o]? = some (some nilB)))
       X (evT X) 11 0 code (bcFr A (.ro d (.pr 12 (l.map Va.pay)) 2) (.ro e (.pr 2 (ts.map Ty.pay)) 3) l.length 0) H := by
  refine ⟨_, rfl, ?_⟩
  have hLl : (l.map Va.pay).length = l.length := List.length_map _
  have hTl : (ts.map Ty.pay).length = ts.length := List.length_map _
  have hLat : ∀ (i : Nat) (v : Va), l[i]? = some v → (l.map Va.pay)[i]? = some v.pay := fun i p h => (by rw [List.getElem?_map, h]; rfl)
  have hTat : ∀ (i : Nat) (v : Ty), ts[i]? = some v → (ts.map Ty.pay)[i]? = some v.pay := fun i p h => (by rw [List.getElem?_map, h]; rfl)
  generalize l.map Va.pay = L at *
  generalize ts.map Ty.pay = T at *
  apply Tells.blockOr
  refine Tells.loopP (fun k fr H => ∃ i, k = l.length - i ∧ i ≤ l.length ∧ fr = bcFr A (.ro d (.pr 12 L) 2) (.ro e (.pr 2 T) 3) l.length i ∧ ∀ (j : Nat) (v : Va) (t : Ty), j < i → l[j]? = some v → ts[j]? = some t → chkV v t = 0) ?_ (k := l.length) ⟨0, rfl, by omega, rfl, by omega⟩
  rintro k fr H ⟨i, rfl, hi, rfl, hall⟩
  by_cases hin : i = l.length
  · subst hin
    refine Tells.of (o := ⟨.exit 0, bcFr A (.ro d (.pr 12 L) 2) (.ro e (.pr 2 T) 3) l.length l.length ++ [(26, .bool false)], H⟩) ⟨0, ?_⟩ (.inr ⟨by simp, .inl ⟨rfl, fun i v t hv ht => hall i v t (at_lt hv) hv ht, rfl⟩⟩)
    simp (maxSteps := 2000000) -implicitDefEqProofs [-getElem?_pos, List.getElem?_cons_zero, List.getElem?_cons_succ, go_sem, eqV, plen, loadV, storeV, bcFr]
  have hlt : i < l.length := by omega
  have hiI : (i : Int) < (l.length : Int) := by omega
  have hltT : i < ts.length := by omega
  have hiT : (i : Int) < (ts.length : Int) := by omega
  obtain ⟨v, hv⟩ : ∃ p, l[i]? = some p := ⟨_, List.getElem?_eq_getElem hlt⟩
  obtain ⟨t, htt⟩ : ∃ p, ts[i]? = some p := ⟨_, List.getElem?_eq_getElem hltT⟩
  have hrow := hLat i v hv
  have hrowT := hTat i t htt
  have hm := List.mem_of_getElem? hv
  have hmt := List.mem_of_getElem? htt
  have hnew : ∀ x : Option AM.Obj, (H ++ [x])[H.length]? = some x := fun x => by simp
  have w1 : IntKind.i64.wrap ((i : Int) + 1) = ((i + 1 : Nat) : Int) := by rw [wrap_i64 (by omega) (by omega)]; omega
  have hC := check_ev (v := v) (t := t) (ht t hmt) (hl v hm).1 (hl v hm).2 (H ++ [some (vaO v)])
  simp only [vaO, Va.pay, Ty.pay] at hC hrow hrowT
  by_cases h0 : chkV v t = 0
  · rw [h0] at hC
    refine Tells.of (o := ⟨.normal, bcFr A (.ro d (.pr 12 L) 2) (.ro e (.pr 2 T) 3) l.length (i + 1), H ++ [some (vaO v)]⟩) ⟨0, ?_⟩ (.inl ⟨rfl, l.length - (i + 1), by omega, i + 1, rfl, by omega, rfl, fun j v' t' hj hv' ht' => ?_⟩)
    · simp (maxSteps := 2000000) -implicitDefEqProofs [-getElem?_pos, List.getElem?_cons_zero, List.getElem?_cons_succ, go_sem, eqV, plen, loadV, storeV, bcFr, hiI, hlt, hLl, hrow, hiT, hltT, hTl, hrowT, vaO, Va.pay, Ty.pay, retagL, retag, retagP, flatCells, splice, scalars, scalar, hnew, mkVa, mkTy, hC, w1]
    · by_cases hji : j = i
      · subst hji
        rw [hv] at hv'; obtain rfl := Option.some.inj hv'
        rw [htt] at ht'; obtain rfl := Option.some.inj ht'
        exact h0
      · exact hall j v' t' (by omega) hv' ht'
  · have h0b : (chkV v t != 0) = true := by simpa using h0
    refine Tells.of (o := ⟨.ret, [(6, .sl (H.length + 1) 0 0 0), (7, .int .i64 2)], H ++ [some (vaO v)] ++ [some nilB]⟩) ⟨0, ?_⟩ (.inr ⟨by simp, .inr ⟨rfl, rfl, zr_bad hv htt h0, H.length + 1, rfl, rfl, by simp⟩⟩)
    generalize chkV v t = ck at *
    simp (maxSteps := 2000000) -implicitDefEqProofs [-getElem?_pos, List.getElem?_cons_zero, List.getElem?_cons_succ, go_sem, eqV, plen, loadV, storeV, bcFr, hiI, hlt, hLl, hrow, hiT, hltT, hTl, hrowT, vaO, Va.pay, Ty.pay, retagL, retag, retagP, flatCells, splice, scalars, scalar, hnew, mkVa, mkTy, hC, h0b, assignV, emB]

set_option maxRecDepth 100000 in
set_option maxHeartbeats 4000000 in
theorem bapp_code (hc : c = 0 → b = []) (hb : b.length ≤ 2000000) (hl : ∀ v ∈ l, v.okR) (ht : ∀ t ∈ ts, t.t < 256) (hR : (restB (zr l ts)).length ≤ 1000000) (hlb : l.length ≤ 100000000) : ∃ code, Try.f11.body = some code ∧
    Tells (Rets fun fr H => ∃ o g ob, getF fr 6 = .sl o 0 (bnApp b l ts).1.length g ∧ getF fr 7 = .int .i64 (bnApp b l ts).2 ∧ H[o]? = some (some ob) ∧ Rw (.pb (bnApp b l ts).1) g ob) X (evT X) 11 0 code [(0, .ro c (.pb b) 1), (1, .ro d (.pr 12 (l.map Va.pay)) 2), (2, .ro e (.pr 2 (ts.map Ty.pay)) 3)] [] := by
  refine ⟨_, rfl, ?_⟩
  obtain ⟨L, hLm⟩ : ∃ L, l.map Va.pay = L := ⟨_, rfl⟩
  obtain ⟨T, hTm⟩ : ∃ L, ts.map Ty.pay = L := ⟨_, rfl⟩
  have hLl : L.length = l.length := by rw [← hLm]; exact List.length_map _
  have hTl : T.length = ts.length := by rw [← hTm]; exact List.length_map _
  rw [hLm, hTm]
  apply Tells.seq (fr' := [(0, .ro c (.pb b) 1), (1, .ro d (.pr 12 L) 2), (2, .ro e (.pr 2 T) 3)]) (H' := [some nilB])
  · (refine ⟨0, ?_⟩; simp (maxSteps := 2000000) -implicitDefEqProofs [-getElem?_pos, List.getElem?_cons_zero, List.getElem?_cons_succ, go_sem, eqV, plen, loadV, storeV, assignV, emB])
  by_cases h5 : 4096 < ts.length
  · rw [show bnApp b l ts = ([], 3) from if_pos h5]
    refine Tells.of (o := ⟨.ret, [(6, .sl 1 0 0 0), (7, .int .i64 3)], [some nilB, some nilB]⟩) ?_ ⟨rfl, 1, 0, nilB, rfl, rfl, rfl, nilB_rw⟩
    apply Run.seq_out (hne := by simp)
    have h5i : (4096 : Int) < (ts.length : Int) := by omega
    refine ⟨0, ?_⟩
    simp (maxSteps := 2000000) -implicitDefEqProofs [-getElem?_pos, List.getElem?_cons_zero, List.getElem?_cons_succ, go_sem, eqV, plen, loadV, storeV, assignV, emB, h5i, hTl]
  have h5i : ¬ (4096 : Int) < (ts.length : Int) := by omega
  apply Tells.seq (fr' := [(0, .ro c (.pb b) 1), (1, .ro d (.pr 12 L) 2), (2, .ro e (.pr 2 T) 3), (17, .bool false)]) (H' := [some nilB])
  · (refine ⟨0, ?_⟩; simp (maxSteps := 2000000) -implicitDefEqProofs [-getElem?_pos, List.getElem?_cons_zero, List.getElem?_cons_succ, go_sem, eqV, plen, loadV, storeV, assignV, emB, h5i, hTl])
  by_cases hnt : l.length ≠ ts.length
  · rw [show bnApp b l ts = ([], 2) by unfold bnApp; rw [if_neg h5, if_pos hnt]]
    have hnb : ((l.length : Int) != (ts.length : Int)) = true := by simp; omega
    refine Tells.of (o := ⟨.ret, [(6, .sl 1 0 0 0), (7, .int .i64 2)], [some nilB, some nilB]⟩) ?_ ⟨rfl, 1, 0, nilB, rfl, rfl, rfl, nilB_rw⟩
    apply Run.seq_out (hne := by simp)
    refine ⟨0, ?_⟩
    simp (maxSteps := 2000000) -implicitDefEqProofs [-getElem?_pos, List.getElem?_cons_zero, List.getElem?_cons_succ, go_sem, eqV, plen, loadV, storeV, assignV, emB, hLl, hTl, hnb]
  have hnt : l.length = ts.length := by omega
  have hnb : ((l.length : Int) != (ts.length : Int)) = false := by rw [hnt]; simp
  apply Tells.seq (fr' := [(0, .ro c (.pb b) 1), (1, .ro d (.pr 12 L) 2), (2, .ro e (.pr 2 T) 3), (22, .bool false)]) (H' := [some nilB])
  · (refine ⟨0, ?_⟩; simp (maxSteps := 2000000) -implicitDefEqProofs [-getElem?_pos, List.getElem?_cons_zero, List.getElem?_cons_succ, go_sem, eqV, plen, loadV, storeV, hLl, hTl, hnb])
  apply Tells.assoc
  apply Tells.seq (fr' := bcFr (.ro c (.pb b) 1) (.ro d (.pr 12 L) 2) (.ro e (.pr 2 T) 3) l.length 0) (H' := [some nilB])
  · (refine ⟨0, ?_⟩; simp (maxSteps := 2000000) -implicitDefEqProofs [-getElem?_pos, List.getElem?_cons_zero, List.getElem?_cons_succ, go_sem, eqV, plen, loadV, storeV, bcFr, hLl])
  generalize hHH : ([some nilB] : AM.Heap) = HH
  rw [← hLm, ← hTm]
  apply Tells.or (P := fun fr H => (∀ (i : Nat) (v : Va) (t : Ty), l[i]? = some v → ts[i]? = some t → chkV v t = 0) ∧ fr = bcFr (.ro c (.pb b) 1) (.ro d (.pr 12 (l.map Va.pay)) 2) (.ro e (.pr 2 (ts.map Ty.pay)) 3) l.length l.length ++ [(26, .bool false)])
  · refine (piece (bc_loop d l e ts (.ro c (.pb b) 1) HH hl ht (by omega) hnt) _ rfl).mono ?_
    rintro out (h | ⟨h1, h2, hbd, o, q6, q7, q8⟩)
    · exact .inl h
    · have hbd : bnApp b l ts = ([], 2) := by unfold bnApp; rw [if_neg h5, if_neg (by omega), if_pos hbd]
      exact .inr ⟨h1, h2, o, 0, nilB, by rw [hbd]; exact q6, by rw [hbd]; exact q7, q8, by rw [hbd]; exact nilB_rw⟩
  rintro fr H ⟨hok, rfl⟩
  have hpa : bnApp b l ts = (b ++ bnB (zr l ts), 0) := by
    unfold bnApp
    rw [if_neg h5, if_neg (by omega), if_neg (zr_fine hnt hok)]
  have hzl := zr_len hnt
  rw [hpa, hLm, hTm]
  obtain ⟨ob0, hw0, hA0⟩ := clone_ev (H := H) (a := .ro c (.pb b) 1) (b := b) (Byt.ro (.inl rfl) hc) (by omega)
  have hK : (H ++ [some ob0])[H.length]? = some (some ob0) := by simp
  obtain ⟨ob1, hw1, hA1⟩ := app_b (H := H ++ [some ob0]) (o := H.length) (m := [0]) (src := .ro 1 (.pb [0]) 0) hK hw0 (.inl rfl) (by simp; omega)
  have hup : upd (H ++ [some ob0]) H.length (some ob1) = H ++ [some ob1] := by unfold upd; simp
  rw [hup] at hA1
  have hbs := fun H => bsK H 0 0 rfl
  apply Tells.seq (fr' := [(1, .ro d (.pr 12 L) 2), (2, .ro e (.pr 2 T) 3), (10, .sl H.length 0 (b.length + 1) 1)]) (H' := H ++ [some ob1])
  · simp only [List.length_cons, List.length_nil, Nat.zero_add] at hA1
    (refine ⟨0, ?_⟩; simp (maxSteps := 2000000) -implicitDefEqProofs [-getElem?_pos, List.getElem?_cons_zero, List.getElem?_cons_succ, go_sem, eqV, plen, loadV, storeV, bcFr, hA0, hbs, hA1, assignV])
  have hM := mkB (n := (l.length + 9) / 8) (by omega) (H ++ [some ob1])
  have w7 : IntKind.i64.wrap ((l.length : Int) + 9) = ((l.length + 9 : Nat) : Int) := by rw [wrap_i64 (by omega) (by omega)]; omega
  have w8 : IntKind.i64.wrap (((l.length + 9 : Nat) : Int) / 8) = (((l.length + 9) / 8 : Nat) : Int) := by
    rw [wrap_i64 (by omega) (by omega)]; omega
  simp only [List.length_append, List.length_cons, List.length_nil, Nat.zero_add] at hM
  generalize hm8 : (l.length + 9) / 8 = m8 at *
  generalize hn7 : l.length + 9 = n7 at *
  apply Tells.seq (fr' := [(1, .ro d (.pr 12 L) 2), (2, .ro e (.pr 2 T) 3), (10, .sl H.length 0 (b.length + 1) 1), (11, .sl (H.length + 1) 0 m8 0)]) (H' := H ++ [some ob1] ++ [some (bitO m8 (zer m8))])
  · (refine ⟨0, ?_⟩; simp (maxSteps := 2000000) -implicitDefEqProofs [-getElem?_pos, List.getElem?_cons_zero, List.getElem?_cons_succ, go_sem, eqV, plen, loadV, storeV, assignV, hLl, w7, w8, hM, bitO, zer])
  apply Tells.seq (fr' := [(1, .ro d (.pr 12 L) 2), (2, .ro e (.pr 2 T) 3), (10, .sl H.length 0 (b.length + 1) 1), (11, .sl (H.length + 1) 0 m8 0), (12, .sl (H.length + 2) 0 0 0)]) (H' := H ++ [some ob1] ++ [some (bitO m8 (zer m8))] ++ [some nilB])
  · (refine ⟨0, ?_⟩; simp (maxSteps := 2000000) -implicitDefEqProofs [-getElem?_pos, List.getElem?_cons_zero, List.getElem?_cons_succ, go_sem, eqV, plen, loadV, storeV, assignV, emB])
  apply Tells.assoc
  apply Tells.seq (fr' := bnFr b d l e ts H.length m8 0 (H.length + 2)) (H' := H ++ [some ob1] ++ [some (bitO m8 (zer m8))] ++ [some nilB])
  · have r0 : (restB ((zr l ts).take 0)).length = 0 := rfl
    unfold bnFr
    rw [r0, hLm, hTm]
    (refine ⟨0, ?_⟩; simp (maxSteps := 2000000) -implicitDefEqProofs [-getElem?_pos, List.getElem?_cons_zero, List.getElem?_cons_succ, go_sem, eqV, plen, loadV, storeV, hLl])
  generalize hK0 : H.length = K at *
  have hH0 : bnHp l ts K m8 ob1 0 (K + 2) (H ++ [some ob1] ++ [some (bitO m8 (zer m8))] ++ [some nilB]) :=
    ⟨nilB, by subst hK0; exact at_cat (at_cat (by simp)), by subst hK0; exact at_cat (by rw [show H.length + 1 = (H ++ [some ob1]).length by simp]; simp [bitN]), by omega, by subst hK0; rw [show H.length + 2 = (H ++ [some ob1] ++ [some (bitO m8 (zer m8))]).length by simp]; simp, nilB_rw⟩
  generalize H ++ [some ob1] ++ [some (bitO m8 (zer m8))] ++ [some nilB] = H0 at *
  apply Tells.blockThen (P := fun fr H => ∃ o, fr = bnFr b d l e ts K m8 l.length o ++ [(50, .bool false)] ∧ bnHp l ts K m8 ob1 l.length o H)
  · refine Tells.loopP (fun k fr H => ∃ i o, k = l.length - i ∧ i ≤ l.length ∧ fr = bnFr b d l e ts K m8 i o ∧ bnHp l ts K m8 ob1 i o H) ?_ (k := l.length) ⟨0, K + 2, rfl, by omega, rfl, hH0⟩
    rintro k fr H ⟨i, o, rfl, hi, rfl, hH⟩
    by_cases hin : i = l.length
    · subst hin
      refine Tells.of (o := ⟨.exit 2, bnFr b d l e ts K m8 l.length o ++ [(50, .bool false)], H⟩) ⟨0, ?_⟩ (.inr ⟨by simp, .inl ⟨rfl, o, rfl, hH⟩⟩)
      unfold bnFr
      rw [hLm, hTm]
      generalize (restB ((zr l ts).take l.length)).length = nr at *
      simp (maxSteps := 2000000) -implicitDefEqProofs [-getElem?_pos, List.getElem?_cons_zero, List.getElem?_cons_succ, go_sem, eqV, plen, loadV, storeV]
    have hiI : (i : Int) < (l.length : Int) := by omega
    obtain ⟨v, hv⟩ : ∃ p, l[i]? = some p := ⟨_, List.getElem?_eq_getElem (show i < l.length by omega)⟩
    obtain ⟨t, htt⟩ : ∃ p, ts[i]? = some p := ⟨_, List.getElem?_eq_getElem (show i < ts.length by omega)⟩
    apply Tells.seq (fr' := bnFr b d l e ts K m8 i o ++ [(50, .bool true)]) (H' := H)
    · unfold bnFr
      rw [hLm, hTm]
      generalize (restB ((zr l ts).take i)).length = nr at *
      (refine ⟨0, ?_⟩; simp (maxSteps := 2000000) -implicitDefEqProofs [-getElem?_pos, List.getElem?_cons_zero, List.getElem?_cons_succ, go_sem, eqV, plen, loadV, storeV, hiI])
    apply Tells.seq (fr' := bnFr b d l e ts K m8 i o ++ [(50, .bool true)]) (H' := H)
    · refine condT (by simp [evalO, getF, bnFr]) ?_
      exact ⟨0, rfl⟩
    refine (piece (bn_round b d l e ts K m8 ob1 i o v t H (by omega) hnt (by omega) hR hv htt (ht t (List.mem_of_getElem? htt)) (hl v (List.mem_of_getElem? hv)) (hok i v t hv htt) hH) _ rfl).mono ?_
    rintro q ⟨h1, o', h2, h3⟩
    exact .inl ⟨h1, l.length - (i + 1), by omega, i + 1, o', rfl, by omega, h2, h3⟩
  rintro fr H' ⟨o, rfl, obr, q0, q1, hoK, q3, hr⟩
  have hzt : (zr l ts).take l.length = zr l ts := List.take_of_length_le (by omega)
  rw [hzt] at hr
  have hbl : (bitN (nulP (zr l ts)) 2 (zer m8) l.length).length = m8 := by rw [bitN_len]; simp [zer]
  have hbB : bnB (zr l ts) = 0 :: (bitN (nulP (zr l ts)) 2 (zer m8) l.length ++ restB (zr l ts)) := by unfold bnB bitsR; rw [hzl, hn7, hm8]
  rw [hbB]
  generalize bitN (nulP (zr l ts)) 2 (zer m8) l.length = bs at *
  have hwb : Rw (.pb bs) 0 (bitO m8 bs) := ⟨rfl, rfl, rfl, rfl, rfl⟩
  obtain ⟨ob2, hw2, hA2⟩ := app_b (H := H') (o := K) (m := bs) (src := .sl (K + 1) 0 m8 0) q0 hw1 (.inl (srcW q1 hwb hbl.symm)) (by simp; omega)
  rw [show (b ++ [(0 : UInt8)]).length = b.length + 1 by simp, hbl] at hA2
  have q3' : (upd H' K (some ob2))[o]? = some (some obr) := at_ne q3 (by omega)
  have q0' : (upd H' K (some ob2))[K]? = some (some ob2) := at_set q0
  obtain ⟨ob3, hw3, hA3⟩ := app_b (H := upd H' K (some ob2)) (o := K) (m := restB (zr l ts)) (src := .sl o 0 (restB (zr l ts)).length 0) q0' hw2 (.inl (srcW q3' hr rfl)) (by simp; omega)
  rw [show (b ++ [(0 : UInt8)] ++ bs).length = b.length + 1 + m8 by simp [hbl]; omega] at hA3
  refine Tells.of (o := ⟨.ret, [(6, .sl K 0 (b.length + 1 + m8 + (restB (zr l ts)).length) 3), (7, .int .i64 0)], upd (upd H' K (some ob2)) K (some ob3)⟩) ⟨0, ?_⟩ ⟨rfl, K, 3, ob3, ?_, rfl, at_set q0', ?_⟩
  · unfold bnFr
    rw [hLm, hTm, hzt]
    generalize (restB (zr l ts)).length = n2 at *
    simp only [upd, List.set_set, Nat.reduceAdd] at hA2 hA3
    simp (maxSteps := 2000000) -implicitDefEqProofs [-getElem?_pos, List.getElem?_cons_zero, List.getElem?_cons_succ, go_sem, eqV, plen, loadV, storeV, hA2, hA3, assignV]
  · simp only [getF, List.length_append, List.length_cons]; simp; omega
  · rw [show b ++ 0 :: (bs ++ restB (zr l ts)) = b ++ [0] ++ bs ++ restB (zr l ts) by simp]; exact hw3

end

theorem bapp_ev {H : AM.Heap} {a A B : AV} {b : List UInt8} {l : List Va} {ts : List Ty} (h : Byt H a b) (hA : RoV H A l) (hB : RoT H B ts) (hb : b.length ≤ 2000000) (hl : ∀ p ∈ l, p.okR) (ht : ∀ t ∈ ts, t.t < 256) (hR : (restB (zr l ts)).length ≤ 1000000) (hlb : l.length ≤ 100000000) :
    ∃ ob, Rw (.pb (bnApp b l ts).1) 0 ob ∧ evT X 11 [a, A, B] H = some (.tup [.sl H.length 0 (bnApp b l ts).1.length 0, .int .i64 (bnApp b l ts).2], H ++ [some ob]) := by
  obtain ⟨e, pt, xt, hpt, he, hxt⟩ := args_t (f := 11) (i := 2) rfl hB (args_nil 3)
  obtain ⟨d, pv, xv, hpv, hd, hxv⟩ := args_v (f := 11) (i := 1) rfl hA hxt
  obtain ⟨c, p, xl, hp, hc, hx'⟩ := args_byt (C := X) (f := 11) (i := 0) rfl h hxv
  obtain ⟨code, hcode, hr⟩ := bapp_code c b d l e ts hc hb hl ht hR hlb
  obtain ⟨ob, q1, q2⟩ := Ev1.newB (H := H) (n := (bnApp b l ts).1.length) (l := (bnApp b l ts).1) (rest := [.int .i64 (bnApp b l ts).2]) (evT_below X) Try.func11 hcode hx' (by simp [idsL, ids, hp.ids, hpv.ids, hpt.ids]) (by simp [gtag]) rfl rfl rfl (by
    obtain ⟨o, ⟨he, o1, g, ob, q1, q2, q3, q4⟩, hrun⟩ := hr
    exact ⟨o, ⟨he, o1, g, ob, by show some [getF o.fr 6, getF o.fr 7] = _; rw [q1, q2], q3, q4⟩, by rw [par11, coB hp, coV hpv, coT hpt, coerce_nil]; exact hrun⟩)
  exact ⟨ob, q1, evT_eq q2⟩

end Go.Proofs.Ytafdnpcamepbmaa

/- Walks: a text row written. -/
namespace Go.Proofs.Ytafdnpcamepbmaa
open Go.AM
set_option linter.unusedSimpArgs false
set_option linter.unusedVariables false

def tcFr (A L : AV) (n i : Nat) : AM.Frame := [(0, A), (1, L), (14, L), (15, .int .i64 (n : Nat)), (16, .int .i64 (i : Nat))]

section
variable (c : Nat) (b : List UInt8) (d : Nat) (l : List Va)

/-- a round's frame -/
def twFr (i o g : Nat) : AM.Frame := [(8, .sl o 0 (b ++ txR (l.take i)).length g), (27, .ro d (.pr 12 (l.map Va.pay)) 2), (28, .int .i64 (l.length : Nat)), (29, .int .i64 (i : Nat))]

set_option maxRecDepth 100000 in
set_option maxHeartbeats 4000000 in
theorem tw_round (i o g : Nat) (v : Va) (ob : AM.Obj) (H : AM.Heap) (hn : l.length ≤ 4096) (hp : l[i]? = some v) (hb : b.length ≤ 2000000) (hT : (txR l).length ≤ 1000000) (hs : v.t.length ≤ 16777216) (ho : H[o]? = some (some ob)) (hw : Rw (.pb (b ++ txR (l.take i))) g ob) :
    ∃ code, ((Try.f7.body).bind (codeAt [1, 1, 1, 1, 0, 1, 0, 0, 1, 1])) = some code ∧
      Tells (Goes fun fr H' => ∃ o' g' ob', fr = twFr b d l (i + 1) o' g' ∧ H'[o']? = some (some ob') ∧ Rw (.pb (b ++ txR (l.take (i + 1)))) g' ob') X (evT X) 7 0 code (twFr b d l i o g ++ [(30, .bool true)]) H := by
  refine ⟨_, rfl, ?_⟩
  have hlt := at_lt hp
  have hLl : (l.map Va.pay).length = l.length := List.length_map _
  have hrow : (l.map Va.pay)[i]? = some v.pay := by rw [List.getElem?_map, hp]; rfl
  have hiI : (i : Int) < (l.length : Int) := by omega
  have hcat := txR_take hp
  have hle := txR_le l i
  have w1 : IntKind.i64.wrap ((i : Int) + 1) = ((i + 1 : Nat) : Int) := by rw [wrap_i64 (by omega) (by omega)]; omega
  have hnew : ∀ x : Option AM.Obj, (H ++ [x])[H.length]? = some x := fun x => by simp
  by_cases hk : v.k = 0
  · have ht : txV v = [251] := if_pos hk
    rw [ht] at hcat
    obtain ⟨ob1, hw1, hA⟩ := app_b (H := H ++ [some (vaO v)]) (o := o) (m := [251]) (src := .ro 1 (.pb [251]) 0) (at_cat ho) hw (.inl rfl) (by simp; omega)
    have hbs := fun H => bsK H 251 251 rfl
    rw [List.append_assoc, ← hcat] at hw1
    have hl1 : (b ++ txR (l.take (i + 1))).length = (b ++ txR (l.take i)).length + 1 := by rw [hcat]; simp; omega
    refine Tells.of (o := ⟨.normal, twFr b d l (i + 1) o (g + 1), upd (H ++ [some (vaO v)]) o (some ob1)⟩) ⟨0, ?_⟩ ⟨rfl, o, g + 1, ob1, rfl, at_set (at_cat ho), hw1⟩
    unfold twFr
    rw [hl1]
    simp only [List.length_cons, List.length_nil, Nat.zero_add] at hA
    generalize (b ++ txR (l.take i)).length = n at *
    generalize l.map Va.pay = L at *
    simp only [vaO, Va.pay] at hA hrow
    rw [hk] at hA hrow
    simp (maxSteps := 2000000) -implicitDefEqProofs [-getElem?_pos, List.getElem?_cons_zero, List.getElem?_cons_succ, go_sem, eqV, plen, loadV, storeV, hlt, hiI, hLl, hrow, vaO, Va.pay, hk, retagL, retag, retagP, flatCells, splice, scalars, scalar, hnew, mkVa, hbs, hA, w1, assignV]
  · have ht : txV v = aT v.t := if_neg hk
    rw [ht] at hcat
    have hkb : (v.k == 0) = false := by simpa using hk
    obtain ⟨ob1, hw1, hA⟩ := appendText_ev (H := H ++ [some (vaO v)]) (s := v.t) (Byt.whole (at_cat ho) hw) (by simp; omega) (by omega)
    rw [List.append_assoc, ← hcat] at hw1 hA
    refine Tells.of (o := ⟨.normal, twFr b d l (i + 1) (H.length + 1) 0, H ++ [some (vaO v)] ++ [some ob1]⟩) ⟨0, ?_⟩ ⟨rfl, H.length + 1, 0, ob1, rfl, by simp, hw1⟩
    unfold twFr
    generalize (b ++ txR (l.take i)).length = n at *
    generalize (b ++ txR (l.take (i + 1))).length = n1 at *
    generalize l.map Va.pay = L at *
    simp only [vaO, Va.pay] at hA hrow
    simp (maxSteps := 2000000) -implicitDefEqProofs [-getElem?_pos, List.getElem?_cons_zero, List.getElem?_cons_succ, go_sem, eqV, plen, loadV, storeV, hlt, hiI, hLl, hrow, vaO, Va.pay, hkb, retagL, retag, retagP, flatCells, splice, scalars, scalar, hnew, mkVa, hA, w1, assignV]

set_option maxRecDepth 100000 in
set_option maxHeartbeats 4000000 in
/-- a round: the row's check -/
theorem tc_chk (A : AV) (i : Nat) (v : Va) (H : AM.Heap) (k : Nat) (ho : v.okR) (hk : H[k]? = some (some (vaO v))) :
    ∃ code, ((Try.f7.body).bind (codeAt [1, 1, 0, 1, 0, 0, 1, 1, 0, 0, 1, 0])) = some code ∧ Run X (evT X) 7 0 code [(0, A), (1, .ro d (.pr 12 (l.map Va.pay)) 2), (7, .ptr k 0 0 0), (14, .ro d (.pr 12 (l.map Va.pay)) 2), (15, .int .i64 (l.length : Nat)), (16, .int .i64 (i : Nat))] H
      ⟨.normal, tcFr A (.ro d (.pr 12 (l.map Va.pay)) 2) l.length i ++ [(23, .bool (chkV v tyVS != 0))], H⟩ := by
  refine ⟨_, rfl, ?_⟩
  have hC := check_ev (v := v) (t := tyVS) (by decide) ho.1 ho.2 H
  have hX := texts_ev H
  have hlt := at_lt hk
  generalize l.map Va.pay = L at *
  generalize chkV v tyVS = ck at *
  unfold tcFr
  simp only [Va.pay, Ty.pay] at hC hX
  apply Run.dy (by simp) keep7_6 (by simp)
  · (conv => lhs; simp (maxSteps := 2000000) -implicitDefEqProofs [-getElem?_pos, List.getElem?_cons_zero, List.getElem?_cons_succ, go_sem, eqV, plen, loadV, storeV, runD, out1, markOf, freeO, quietO, pushes, isAssign, calledV, touched, mentioned, opVals, touchCall, mentionCall, idsAt, Op.operands, ids, idsL, lendArgs, lendV, lend1, lendL, eqH_self, hk, vaO, Va.pay, mkVa, mkTy, hC, hX, retagL, retag, retagP, flatCells, splice, scalars, scalar])
  · refine marksOk_of (ps := [(0, 1)]) (by kernel_rfl) ?_
    simp [bearP, bear]
  · rfl

set_option maxRecDepth 100000 in
set_option maxHeartbeats 4000000 in
theorem tc_loop (A : AV) (H : AM.Heap) (hl : ∀ v ∈ l, v.okR) (hn : l.length ≤ 4096) :
    ∃ code, ((Try.f7.body).bind (codeAt [1, 1, 0, 1])) = some code ∧
      Tells (Or2 (fun fr H => (∀ p ∈ l, chkV p tyVS = 0) ∧ fr = tcFr A (.ro d (.pr 12 (l.map Va.pay)) 2) l.length l.length ++ [(17, .bool false)]) (fun out => out.ex = .ret ∧ (∃ p ∈ l, chkV p tyVS ≠ 0) ∧ ∃ o, getF out.fr 4 = .sl o 0 0 0 ∧ getF out.fr 5 = .int .i64 2 ∧ out.H[o]? = some (some nilB))) X (evT X) 7 0 code (tcFr A (.ro d (.pr 12 (l.map Va.pay)) 2) l.length 0) H := by
  refine ⟨_, rfl, ?_⟩
  have hLl : (l.map Va.pay).length = l.length := List.length_map _
  apply Tells.blockOr
  refine Tells.loopP (fun k fr H => ∃ i, k = l.length - i ∧ i ≤ l.length ∧ fr = tcFr A (.ro d (.pr 12 (l.map Va.pay)) 2) l.length i ∧ ∀ j p, j < i → l[j]? = some p → chkV p tyVS = 0) ?_ (k := l.length) ⟨0, rfl, by omega, rfl, by omega⟩
  rintro k fr H ⟨i, rfl, hi, rfl, hall⟩
  by_cases hin : i = l.length
  · subst hin
    refine Tells.of (o := ⟨.exit 0, tcFr A (.ro d (.pr 12 (l.map Va.pay)) 2) l.length l.length ++ [(17, .bool false)], H⟩) ⟨0, ?_⟩ (.inr ⟨by simp, .inl ⟨rfl, fun p hp => ?_, rfl⟩⟩)
    · generalize l.map Va.pay = L at *
      simp (maxSteps := 2000000) -implicitDefEqProofs [-getElem?_pos, List.getElem?_cons_zero, List.getElem?_cons_succ, go_sem, eqV, plen, loadV, storeV, tcFr]
    · obtain ⟨j, hj, rfl⟩ := List.mem_iff_getElem.1 hp
      exact hall j _ hj (List.getElem?_eq_getElem hj)
  have hlt : i < l.length := by omega
  have hiI : (i : Int) < (l.length : Int) := by omega
  obtain ⟨v, hv⟩ : ∃ p, l[i]? = some p := ⟨_, List.getElem?_eq_getElem hlt⟩
  have hrow : (l.map Va.pay)[i]? = some v.pay := by rw [List.getElem?_map, hv]; rfl
  have hm := List.mem_of_getElem? hv
  have hnew : ∀ x : Option AM.Obj, (H ++ [x])[H.length]? = some x := fun x => by simp
  have w1 : IntKind.i64.wrap ((i : Int) + 1) = ((i + 1 : Nat) : Int) := by rw [wrap_i64 (by omega) (by omega)]; omega
  have hchk := tc_chk d l A i v (H ++ [some (vaO v)]) H.length (hl v hm) (hnew _)
  apply Tells.seq (fr' := tcFr A (.ro d (.pr 12 (l.map Va.pay)) 2) l.length i ++ [(17, .bool true)]) (H' := H)
  · generalize l.map Va.pay = L at *
    (refine ⟨0, ?_⟩; simp (maxSteps := 2000000) -implicitDefEqProofs [-getElem?_pos, List.getElem?_cons_zero, List.getElem?_cons_succ, go_sem, eqV, plen, loadV, storeV, tcFr, hiI])
  apply Tells.seq (fr' := tcFr A (.ro d (.pr 12 (l.map Va.pay)) 2) l.length i ++ [(17, .bool true)]) (H' := H)
  · refine condT (by simp [evalO, getF, tcFr]) ?_
    exact ⟨0, rfl⟩
  apply Tells.or (P := fun fr H' => chkV v tyVS = 0 ∧ fr = tcFr A (.ro d (.pr 12 (l.map Va.pay)) 2) l.length i ++ [(23, .bool false)])
  · apply Tells.blkOr
    · apply Tells.seq (fr' := [(0, A), (1, .ro d (.pr 12 (l.map Va.pay)) 2), (7, .ptr H.length 0 0 0), (14, .ro d (.pr 12 (l.map Va.pay)) 2), (15, .int .i64 (l.length : Nat)), (16, .int .i64 (i : Nat))]) (H' := H ++ [some (vaO v)])
      · generalize l.map Va.pay = L at *
        simp only [Va.pay] at hrow
        (refine ⟨0, ?_⟩; simp (maxSteps := 2000000) -implicitDefEqProofs [-getElem?_pos, List.getElem?_cons_zero, List.getElem?_cons_succ, go_sem, eqV, plen, loadV, storeV, tcFr, hlt, hLl, hrow, vaO, Va.pay, hnew, mkVa, retagL, retag, retagP, flatCells, splice, scalars, scalar])
      apply Tells.seq (piece hchk _ rfl)
      by_cases h0 : chkV v tyVS = 0
      · have h0b : (chkV v tyVS != 0) = false := by rw [h0]; rfl
        rw [h0b]
        refine Tells.condF (by simp [evalO, getF, tcFr]) ?_
        exact Tells.of (o := ⟨.normal, _, _⟩) ⟨0, rfl⟩ (.inl ⟨rfl, h0, rfl⟩)
      · have h0b : (chkV v tyVS != 0) = true := by simpa using h0
        rw [h0b]
        refine Tells.condT (by simp [evalO, getF, tcFr]) ?_
        refine Tells.of (o := ⟨.ret, [(4, .sl (H.length + 1) 0 0 0), (5, .int .i64 2)], H ++ [some (vaO v)] ++ [some nilB]⟩) ⟨0, ?_⟩ (.inr ⟨by simp, .inr ⟨by simp, .inr ⟨rfl, rfl, ⟨v, hm, h0⟩, H.length + 1, rfl, rfl, by simp⟩⟩⟩)
        generalize l.map Va.pay = L at *
        simp (maxSteps := 2000000) -implicitDefEqProofs [-getElem?_pos, List.getElem?_cons_zero, List.getElem?_cons_succ, go_sem, eqV, plen, loadV, storeV, tcFr, assignV, emB]
    · rintro o (⟨h1, _⟩ | ⟨_, ⟨h2, _⟩ | ⟨h2, _⟩⟩)
      · rw [h1]; simp
      · rw [h2]; simp
      · rw [h2]; simp
  rintro fr H' ⟨h0, rfl⟩
  refine Tells.of (o := ⟨.normal, tcFr A (.ro d (.pr 12 (l.map Va.pay)) 2) l.length (i + 1), H'⟩) ⟨0, ?_⟩ (.inl ⟨rfl, l.length - (i + 1), by omega, i + 1, rfl, by omega, rfl, fun j q hj hq => ?_⟩)
  · generalize l.map Va.pay = L at *
    simp (maxSteps := 2000000) -implicitDefEqProofs [-getElem?_pos, List.getElem?_cons_zero, List.getElem?_cons_succ, go_sem, eqV, plen, loadV, storeV, tcFr, w1]
  · by_cases hji : j = i
    · subst hji; rw [hv] at hq; obtain rfl := Option.some.inj hq
      exact h0
    · exact hall j q (by omega) hq

set_option maxRecDepth 100000 in
set_option maxHeartbeats 4000000 in
theorem tapp_code (hc : c = 0 → b = []) (hb : b.length ≤ 2000000) (hl : ∀ v ∈ l, v.okR) (hT : (txR l).length ≤ 1000000) : ∃ code, Try.f7.body = some code ∧
    Tells (Rets fun fr H => ∃ o g ob, getF fr 4 = .sl o 0 (txApp b l).1.length g ∧ getF fr 5 = .int .i64 (txApp b l).2 ∧ H[o]? = some (some ob) ∧ Rw (.pb (txApp b l).1) g ob) X (evT X) 7 0 code [(0, .ro c (.pb b) 1), (1, .ro d (.pr 12 (l.map Va.pay)) 2)] [] := by
  refine ⟨_, rfl, ?_⟩
  have hLat : ∀ (i : Nat) (v : Va), l[i]? = some v → (l.map Va.pay)[i]? = some v.pay := fun i p h => (by rw [List.getElem?_map, h]; rfl)
  have hLl : (l.map Va.pay).length = l.length := List.length_map _
  generalize hLm : l.map Va.pay = L at *
  apply Tells.seq (fr' := [(0, .ro c (.pb b) 1), (1, .ro d (.pr 12 L) 2)]) (H' := [some nilB])
  · (refine ⟨0, ?_⟩; simp (maxSteps := 2000000) -implicitDefEqProofs [-getElem?_pos, List.getElem?_cons_zero, List.getElem?_cons_succ, go_sem, eqV, plen, loadV, storeV, assignV, emB])
  by_cases h5 : 4096 < l.length
  · rw [show txApp b l = ([], 3) from if_pos h5]
    refine Tells.of (o := ⟨.ret, [(4, .sl 1 0 0 0), (5, .int .i64 3)], [some nilB, some nilB]⟩) ?_ ⟨rfl, 1, 0, nilB, rfl, rfl, rfl, nilB_rw⟩
    apply Run.seq_out (hne := by simp)
    have h5i : (4096 : Int) < (l.length : Int) := by omega
    refine ⟨0, ?_⟩
    simp (maxSteps := 2000000) -implicitDefEqProofs [-getElem?_pos, List.getElem?_cons_zero, List.getElem?_cons_succ, go_sem, eqV, plen, loadV, storeV, assignV, emB, h5i, hLl]
  have hbad : ∀ p ∈ l, chkV p tyVS ≠ 0 → txApp b l = ([], 2) := by
    intro p hp hb
    unfold txApp
    rw [if_neg h5, if_pos (List.any_eq_true.2 ⟨p, hp, by simpa using hb⟩)]
  have h5i : ¬ (4096 : Int) < (l.length : Int) := by omega
  apply Tells.seq (fr' := [(0, .ro c (.pb b) 1), (1, .ro d (.pr 12 L) 2), (13, .bool false)]) (H' := [some nilB])
  · (refine ⟨0, ?_⟩; simp (maxSteps := 2000000) -implicitDefEqProofs [-getElem?_pos, List.getElem?_cons_zero, List.getElem?_cons_succ, go_sem, eqV, plen, loadV, storeV, assignV, emB, h5i, hLl])
  apply Tells.assoc
  apply Tells.seq (fr' := tcFr (.ro c (.pb b) 1) (.ro d (.pr 12 L) 2) l.length 0) (H' := [some nilB])
  · (refine ⟨0, ?_⟩; simp (maxSteps := 2000000) -implicitDefEqProofs [-getElem?_pos, List.getElem?_cons_zero, List.getElem?_cons_succ, go_sem, eqV, plen, loadV, storeV, assignV, emB, tcFr, hLl])
  generalize hHH : ([some nilB] : AM.Heap) = HH
  have hmem : ∀ (i : Nat) p, l[i]? = some p → p ∈ l := fun i p h => List.mem_of_getElem? h
  rw [← hLm]
  apply Tells.or (P := fun fr H => (∀ p ∈ l, chkV p tyVS = 0) ∧ fr = tcFr (.ro c (.pb b) 1) (.ro d (.pr 12 (l.map Va.pay)) 2) l.length l.length ++ [(17, .bool false)])
  · refine (piece (tc_loop d l (.ro c (.pb b) 1) HH hl (by omega)) _ rfl).mono ?_
    rintro out (h | ⟨h1, h2, ⟨p, hp, hb⟩, o, q6, q7, q8⟩)
    · exact .inl h
    · have hbd := hbad p hp hb
      exact .inr ⟨h1, h2, o, 0, nilB, by rw [hbd]; exact q6, by rw [hbd]; exact q7, q8, by rw [hbd]; exact nilB_rw⟩
  · rintro fr H ⟨hok, rfl⟩
    rw [hLm]
    have hany : ¬ (l.any fun v => decide (chkV v tyVS ≠ 0)) = true := by
      intro h
      obtain ⟨p, hp, hb⟩ := List.any_eq_true.1 h
      rw [hok p hp] at hb; simp at hb
    have hpa : txApp b l = (b ++ txR l, 0) := by
      unfold txApp
      rw [if_neg h5, if_neg hany]
    rw [hpa]
    obtain ⟨ob0, hw0, hA0⟩ := clone_ev (H := H) (a := .ro c (.pb b) 1) (b := b) (Byt.ro (.inl rfl) hc) (by omega)
    apply Tells.seq (fr' := [(1, .ro d (.pr 12 L) 2), (8, .sl H.length 0 b.length 0)]) (H' := H ++ [some ob0])
    · (refine ⟨0, ?_⟩; simp (maxSteps := 2000000) -implicitDefEqProofs [-getElem?_pos, List.getElem?_cons_zero, List.getElem?_cons_succ, go_sem, eqV, plen, loadV, storeV, tcFr, hA0, assignV])
    apply Tells.assoc
    have hb0 : (b ++ txR (l.take 0)).length = b.length := by rw [List.take_zero]; simp [txR]
    apply Tells.seq (fr' := twFr b d l 0 H.length 0) (H' := H ++ [some ob0])
    · unfold twFr
      rw [hb0, hLm]
      (refine ⟨0, ?_⟩; simp (maxSteps := 2000000) -implicitDefEqProofs [-getElem?_pos, List.getElem?_cons_zero, List.getElem?_cons_succ, go_sem, eqV, plen, loadV, storeV, hLl])
    apply Tells.blockThen (P := fun fr H => ∃ o g ob, fr = twFr b d l l.length o g ++ [(30, .bool false)] ∧ H[o]? = some (some ob) ∧ Rw (.pb (b ++ txR l)) g ob)
    · refine Tells.loopP (fun k fr H => ∃ i o g ob, k = l.length - i ∧ i ≤ l.length ∧ fr = twFr b d l i o g ∧ H[o]? = some (some ob) ∧ Rw (.pb (b ++ txR (l.take i))) g ob) ?_ (k := l.length) ⟨0, H.length, 0, ob0, rfl, by omega, rfl, by simp, by rw [List.take_zero]; simpa [txR] using hw0⟩
      rintro k fr H ⟨i, o, g, ob, rfl, hi, rfl, ho, hw⟩
      by_cases hin : i = l.length
      · subst hin
        rw [List.take_length] at hw
        refine Tells.of (o := ⟨.exit 2, twFr b d l l.length o g ++ [(30, .bool false)], H⟩) ⟨0, ?_⟩ (.inr ⟨by simp, .inl ⟨rfl, o, g, ob, rfl, ho, hw⟩⟩)
        simp (maxSteps := 2000000) -implicitDefEqProofs [-getElem?_pos, List.getElem?_cons_zero, List.getElem?_cons_succ, go_sem, eqV, plen, loadV, storeV, twFr]
      have hiI : (i : Int) < (l.length : Int) := by omega
      obtain ⟨v, hv⟩ : ∃ p, l[i]? = some p := ⟨_, List.getElem?_eq_getElem (show i < l.length by omega)⟩
      apply Tells.seq (fr' := twFr b d l i o g ++ [(30, .bool true)]) (H' := H)
      · (refine ⟨0, ?_⟩; simp (maxSteps := 2000000) -implicitDefEqProofs [-getElem?_pos, List.getElem?_cons_zero, List.getElem?_cons_succ, go_sem, eqV, plen, loadV, storeV, twFr, hiI])
      apply Tells.seq (fr' := twFr b d l i o g ++ [(30, .bool true)]) (H' := H)
      · refine condT (by simp [evalO, getF, twFr]) ?_
        exact ⟨0, rfl⟩
      have hs : v.t.length ≤ 16777216 := by
        rcases ok_tx (hok v (hmem i v hv)) with h | h
        · rw [h]; decide
        · exact h.2
      refine (piece (tw_round b d l i o g v ob H (by omega) hv hb hT hs ho hw) _ rfl).mono ?_
      rintro q ⟨h1, o', g', ob', h2, h3, h4⟩
      exact .inl ⟨h1, l.length - (i + 1), by omega, i + 1, o', g', ob', rfl, by omega, h2, h3, h4⟩
    rintro fr H ⟨o, g, ob, rfl, ho, hw⟩
    refine Tells.of (o := ⟨.ret, [(4, .sl o 0 (b ++ txR l).length g), (5, .int .i64 0)], H⟩) ⟨0, ?_⟩ ⟨rfl, o, g, ob, rfl, rfl, ho, hw⟩
    unfold twFr
    rw [List.take_length]
    generalize (b ++ txR l).length = n at *
    simp (maxSteps := 2000000) -implicitDefEqProofs [-getElem?_pos, List.getElem?_cons_zero, List.getElem?_cons_succ, go_sem, eqV, plen, loadV, storeV, assignV]

end

theorem tapp_ev {H : AM.Heap} {a A : AV} {b : List UInt8} {l : List Va} (h : Byt H a b) (hA : RoV H A l) (hb : b.length ≤ 2000000) (hl : ∀ p ∈ l, p.okR) (hT : (txR l).length ≤ 1000000) :
    ∃ ob, Rw (.pb (txApp b l).1) 0 ob ∧ evT X 7 [a, A] H = some (.tup [.sl H.length 0 (txApp b l).1.length 0, .int .i64 (txApp b l).2], H ++ [some ob]) := by
  obtain ⟨d, pv, xv, hpv, hd, hxv⟩ := args_v (f := 7) (i := 1) rfl hA (args_nil 2)
  obtain ⟨c, p, xl, hp, hc, hx'⟩ := args_byt (C := X) (f := 7) (i := 0) rfl h hxv
  obtain ⟨code, hcode, hr⟩ := tapp_code c b d l hc hb hl hT
  obtain ⟨ob, q1, q2⟩ := Ev1.newB (H := H) (n := (txApp b l).1.length) (l := (txApp b l).1) (rest := [.int .i64 (txApp b l).2]) (evT_below X) Try.func7 hcode hx' (by simp [idsL, ids, hp.ids, hpv.ids]) (by simp [gtag]) rfl rfl rfl (by
    obtain ⟨o, ⟨he, o1, g, ob, q1, q2, q3, q4⟩, hrun⟩ := hr
    exact ⟨o, ⟨he, o1, g, ob, by show some [getF o.fr 4, getF o.fr 5] = _; rw [q1, q2], q3, q4⟩, by rw [par7, coB hp, coV hpv, coerce_nil]; exact hrun⟩)
  exact ⟨ob, q1, evT_eq q2⟩

end Go.Proofs.Ytafdnpcamepbmaa

/- Walks: the law RowBack. -/
namespace Go.Proofs.Ytafdnpcamepbmaa
open Go.AM
set_option linter.unusedSimpArgs false
set_option linter.unusedVariables false

theorem zr_t : ∀ {l : List Va} {ts : List Ty}, l.length = ts.length → tyR (zr l ts) = ts
  | [], [], _ => rfl
  | v :: l, t :: ts, h => by
    have := zr_t (l := l) (ts := ts) (by simpa using h)
    unfold tyR zr at this ⊢
    rw [List.zipWith_cons_cons, List.map_cons, this]
theorem zr_ok {l : List Va} {ts : List Ty} (hok : ∀ v ∈ l, v.okR) (h : ¬ (zr l ts).any Pm.bad = true) : OkR (zr l ts) := by
  intro p hp
  obtain ⟨h1, h2, h3⟩ := zr_mem hp
  have hb : p.bad = false := by
    cases hb : p.bad with
    | false => rfl
    | true => exact absurd (List.any_eq_true.2 ⟨p, hp, hb⟩) h
  unfold Pm.bad at hb
  rw [h3] at hb
  simp at hb
  exact ⟨h3, hb, hok _ h1⟩
theorem bnB_le (l : List Pm) : (bnB l).length = 1 + (l.length + 9) / 8 + (restB l).length := by
  unfold bnB; rw [List.length_cons, List.length_append, bitsR_len]; omega

section
variable (d : Nat) (l : List Va) (e : Nat) (ts : List Ty) (cut : Int) (y : UInt8)

set_option maxRecDepth 100000 in
set_option maxHeartbeats 8000000 in
/-- behind the text row -/
theorem rk_bin (H : AM.Heap) (tl : AM.Frame) (htl : tl = [(83, .bool false)] ∨ tl = [(9, .sl 0 0 0 0), (69, .bool false)] ∨ tl = [(9, .sl 0 0 0 0), (35, .bool false)]) (hd : d = 0 → l = []) (he : e = 0 → ts = []) (hok : ∀ p ∈ l, p.okR) (h256 : ∀ t ∈ ts, t.t < 256) (hl : l.length ≤ 60) (hlt60 : ts.length ≤ 60) (hR : (restB (zr l ts)).length ≤ 4000) :
    ∃ code, ((Try.f4.body).bind (codeAt [1, 1, 1, 1, 1])) = some code ∧
      Tells (Rets fun fr H => getF fr 8 = .bool true) X (evT X) 4 0 code (rkB d l e ts cut y ++ tl) H := by
  refine ⟨_, rfl, ?_⟩
  have hVV : ∀ H, RoV H (.ro d (.pr 12 (l.map Va.pay)) 1) l := fun H => RoRow.ro fun h => by rw [hd h]; rfl
  have hTT : ∀ H, RoT H (.ro e (.pr 2 (ts.map Ty.pay)) 2) ts := fun H => RoRow.ro fun h => by rw [he h]; rfl
  obtain ⟨ob1, hw1, hA1⟩ := bapp_ev (H := H) (a := .ro 0 .pn 0) (b := []) Byt.nil (hVV _) (hTT _) (by simp) hok h256 (by omega) (by omega)
  have hq : ∀ N er, bnApp [] l ts = (N, er) → evT X 11 [.ro 0 .pn 0, .ro d (.pr 12 (l.map Va.pay)) 1, .ro e (.pr 2 (ts.map Ty.pay)) 2] H = some (.tup [.sl H.length 0 N.length 0, .int .i64 er], H ++ [some ob1]) := fun N er h => by rw [h] at hA1; exact hA1
  by_cases hbad : bnApp [] l ts = ([], 2)
  · have hA := hq _ _ hbad
    rw [hbad] at hw1
    have hnew : ∀ x : Option AM.Obj, (H ++ [x])[H.length]? = some x := fun x => by simp
    refine Tells.of (o := ⟨.ret, [(8, .bool true)], H ++ [some ob1]⟩) ⟨0, ?_⟩ ⟨rfl, rfl⟩
    unfold rkB
    generalize l.map Va.pay = L at *
    generalize ts.map Ty.pay = T at *
    simp only [List.length_nil] at hA
    rcases htl with rfl | rfl | rfl
    · simp (maxSteps := 2000000) -implicitDefEqProofs [-getElem?_pos, List.getElem?_cons_zero, List.getElem?_cons_succ, go_sem, eqV, plen, loadV, storeV, hA, assignV, hnew, hw1.g]
    · simp (maxSteps := 2000000) -implicitDefEqProofs [-getElem?_pos, List.getElem?_cons_zero, List.getElem?_cons_succ, go_sem, eqV, plen, loadV, storeV, hA, assignV, hnew, hw1.g]
    · simp (maxSteps := 2000000) -implicitDefEqProofs [-getElem?_pos, List.getElem?_cons_zero, List.getElem?_cons_succ, go_sem, eqV, plen, loadV, storeV, hA, assignV, hnew, hw1.g]
  have hlt : l.length = ts.length := by
    apply Classical.byContradiction
    intro h
    apply hbad
    unfold bnApp
    rw [if_neg (by omega), if_pos h]
  have hnb : ¬ (zr l ts).any Pm.bad = true := by
    intro h
    apply hbad
    unfold bnApp
    rw [if_neg (by omega), if_neg (by omega), if_pos h]
  have hgood : bnApp [] l ts = (bnB (zr l ts), 0) := by
    unfold bnApp
    rw [if_neg (by omega), if_neg (by omega), if_neg hnb, List.nil_append]
  have hA := hq _ _ hgood
  rw [hgood] at hw1
  simp only at hw1
  have hzl := zr_len hlt
  have hbl := bnB_le (zr l ts)
  have hN1 := bnB_pos (zr l ts)
  have hnew : ∀ x : Option AM.Obj, (H ++ [x])[H.length]? = some x := fun x => by simp
  apply Tells.seq (fr' := rkB d l e ts cut y ++ [(9, .sl H.length 0 (bnB (zr l ts)).length 0), (10, .int .i64 0)]) (H' := H ++ [some ob1])
  · unfold rkB
    generalize l.map Va.pay = L at *
    generalize ts.map Ty.pay = T at *
    generalize (bnB (zr l ts)).length = N at *
    rcases htl with rfl | rfl | rfl
    · (refine ⟨0, ?_⟩; simp (maxSteps := 2000000) -implicitDefEqProofs [-getElem?_pos, List.getElem?_cons_zero, List.getElem?_cons_succ, go_sem, eqV, plen, loadV, storeV, hA, assignV])
    · (refine ⟨0, ?_⟩; simp (maxSteps := 2000000) -implicitDefEqProofs [-getElem?_pos, List.getElem?_cons_zero, List.getElem?_cons_succ, go_sem, eqV, plen, loadV, storeV, hA, assignV])
    · (refine ⟨0, ?_⟩; simp (maxSteps := 2000000) -implicitDefEqProofs [-getElem?_pos, List.getElem?_cons_zero, List.getElem?_cons_succ, go_sem, eqV, plen, loadV, storeV, hA, assignV])
  apply Tells.seq (fr' := rkB d l e ts cut y ++ [(9, .sl H.length 0 (bnB (zr l ts)).length 0), (91, .bool false)]) (H' := H ++ [some ob1])
  · apply Run.seq (fr' := rkB d l e ts cut y ++ [(9, .sl H.length 0 (bnB (zr l ts)).length 0), (91, .bool false)]) (H' := H ++ [some ob1])
    · unfold rkB
      generalize l.map Va.pay = L at *
      generalize ts.map Ty.pay = T at *
      generalize (bnB (zr l ts)).length = N at *
      (refine ⟨0, ?_⟩; simp (maxSteps := 2000000) -implicitDefEqProofs [-getElem?_pos, List.getElem?_cons_zero, List.getElem?_cons_succ, go_sem, eqV, plen, loadV, storeV])
    · exact condF (by simp [evalO, getF, rkB]) ⟨0, rfl⟩
  have hNb : (((bnB (zr l ts)).length : Int) == 0) = false := beq_eq_false_iff_ne.2 (by omega)
  have hNz : ¬ (bnB (zr l ts)).length = 0 := by omega
  apply Tells.seq (fr' := rkB d l e ts cut y ++ [(9, .sl H.length 0 (bnB (zr l ts)).length 0), (97, .bool false)]) (H' := H ++ [some ob1])
  · apply Run.seq (fr' := rkB d l e ts cut y ++ [(9, .sl H.length 0 (bnB (zr l ts)).length 0), (97, .bool false)]) (H' := H ++ [some ob1])
    · unfold rkB
      generalize l.map Va.pay = L at *
      generalize ts.map Ty.pay = T at *
      generalize (bnB (zr l ts)).length = N at *
      (refine ⟨0, ?_⟩; simp (maxSteps := 2000000) -implicitDefEqProofs [-getElem?_pos, List.getElem?_cons_zero, List.getElem?_cons_succ, go_sem, eqV, plen, loadV, storeV, hNb, hNz, hnew, hw1.g])
    · exact condF (by simp [evalO, getF, rkB]) ⟨0, rfl⟩
  exact piece (bb_half d l e ts cut y (H ++ [some ob1]) H.length ob1 (zr l ts) hd he hl hlt (zr_v hlt) (zr_t hlt) (zr_ok hok hnb) h256 (by omega) (hnew _) hw1) _ rfl

set_option maxRecDepth 100000 in
set_option maxHeartbeats 8000000 in
theorem back_code (hd : d = 0 → l = []) (he : e = 0 → ts = []) (hok : ∀ p ∈ l, p.okR) (hl : ∀ p ∈ l, p.t.length ≤ 1048576) (h256 : ∀ t ∈ ts, t.t < 256) : ∃ code, Try.f4.body = some code ∧
    Tells (Rets fun fr H => getF fr 8 = .bool true) X (evT X) 4 0 code (rkB d l e ts cut y) [] := by
  refine ⟨_, rfl, ?_⟩
  have hL := fun H => lives_ev H
  have hVV : ∀ H, RoV H (.ro d (.pr 12 (l.map Va.pay)) 1) l := fun H => RoRow.ro fun h => by rw [hd h]; rfl
  have hTT : ∀ H, RoT H (.ro e (.pr 2 (ts.map Ty.pay)) 2) ts := fun H => RoRow.ro fun h => by rw [he h]; rfl
  have hS := fun H => small_ev (H := H) (hVV H) (hTT H) hl
  apply Tells.seq (fr' := rkB d l e ts cut y) (H' := [])
  · unfold rkB
    generalize l.map Va.pay = L at *
    generalize ts.map Ty.pay = T at *
    (refine ⟨0, ?_⟩; simp (maxSteps := 2000000) -implicitDefEqProofs [-getElem?_pos, List.getElem?_cons_zero, List.getElem?_cons_succ, go_sem, eqV, plen, loadV, storeV])
  apply Tells.seq (fr' := rkB d l e ts cut y ++ [(24, .bool false)]) (H' := [])
  · apply Run.seq (fr' := rkB d l e ts cut y ++ [(24, .bool false)]) (H' := [])
    · unfold rkB
      generalize l.map Va.pay = L at *
      generalize ts.map Ty.pay = T at *
      (refine ⟨0, ?_⟩; simp (maxSteps := 2000000) -implicitDefEqProofs [-getElem?_pos, List.getElem?_cons_zero, List.getElem?_cons_succ, go_sem, eqV, plen, loadV, storeV, hL, unV])
    · exact condF (by simp [evalO, getF, rkB]) ⟨0, rfl⟩
  cases hs : smR l ts with
  | false =>
    rw [hs] at hS
    refine Tells.of (o := ⟨.ret, [(8, .bool true)], []⟩) ⟨0, ?_⟩ ⟨rfl, rfl⟩
    unfold rkB
    generalize l.map Va.pay = L at *
    generalize ts.map Ty.pay = T at *
    simp (maxSteps := 2000000) -implicitDefEqProofs [-getElem?_pos, List.getElem?_cons_zero, List.getElem?_cons_succ, go_sem, eqV, plen, loadV, storeV, hS, unV]
  | true =>
  rw [hs] at hS
  obtain ⟨s1, s2, s3, s4⟩ := sm_rest hs
  apply Tells.seq (fr' := rkB d l e ts cut y ++ [(28, .bool false)]) (H' := [])
  · apply Run.seq (fr' := rkB d l e ts cut y ++ [(28, .bool false)]) (H' := [])
    · unfold rkB
      generalize l.map Va.pay = L at *
      generalize ts.map Ty.pay = T at *
      (refine ⟨0, ?_⟩; simp (maxSteps := 2000000) -implicitDefEqProofs [-getElem?_pos, List.getElem?_cons_zero, List.getElem?_cons_succ, go_sem, eqV, plen, loadV, storeV, hS, unV])
    · exact condF (by simp [evalO, getF, rkB]) ⟨0, rfl⟩
  obtain ⟨ob1, hw1, hA1⟩ := tapp_ev (H := []) (a := .ro 0 .pn 0) (b := []) Byt.nil (hVV _) (by simp) hok (by omega)
  simp only [List.length_nil, List.nil_append] at hA1
  by_cases hbad : (l.any fun v => decide (chkV v tyVS ≠ 0)) = true
  · have hp : txApp [] l = ([], 2) := by unfold txApp; rw [if_neg (by omega), if_pos hbad]
    rw [hp] at hA1 hw1
    apply Tells.seq (fr' := rkB d l e ts cut y ++ [(9, .sl 0 0 0 0), (10, .int .i64 2)]) (H' := [some ob1])
    · unfold rkB
      generalize l.map Va.pay = L at *
      generalize ts.map Ty.pay = T at *
      simp only [List.length_nil] at hA1
      (refine ⟨0, ?_⟩; simp (maxSteps := 2000000) -implicitDefEqProofs [-getElem?_pos, List.getElem?_cons_zero, List.getElem?_cons_succ, go_sem, eqV, plen, loadV, storeV, hA1, assignV])
    apply Tells.seq (fr' := rkB d l e ts cut y ++ [(9, .sl 0 0 0 0), (35, .bool false)]) (H' := [some ob1])
    · apply Run.seq (fr' := rkB d l e ts cut y ++ [(9, .sl 0 0 0 0), (35, .bool false)]) (H' := [some ob1])
      · unfold rkB
        generalize l.map Va.pay = L at *
        generalize ts.map Ty.pay = T at *
        (refine ⟨0, ?_⟩; simp (maxSteps := 2000000) -implicitDefEqProofs [-getElem?_pos, List.getElem?_cons_zero, List.getElem?_cons_succ, go_sem, eqV, plen, loadV, storeV])
      · exact condF (by simp [evalO, getF, rkB]) ⟨0, rfl⟩
    exact piece (rk_bin d l e ts cut y [some ob1] _ (.inr (.inr rfl)) hd he hok h256 s1 s2 s3) _ rfl
  · have hp : txApp [] l = (txR l, 0) := by unfold txApp; rw [if_neg (by omega), if_neg hbad, List.nil_append]
    rw [hp] at hA1 hw1
    have htx : ∀ v ∈ l, okTx v := fun v hv => ok_tx (by
      apply Classical.byContradiction
      intro h
      exact hbad (List.any_eq_true.2 ⟨v, hv, by simpa using h⟩))
    apply Tells.seq (fr' := rkB d l e ts cut y ++ [(9, .sl 0 0 (txR l).length 0), (10, .int .i64 0)]) (H' := [some ob1])
    · unfold rkB
      generalize l.map Va.pay = L at *
      generalize ts.map Ty.pay = T at *
      generalize (txR l).length = N at *
      (refine ⟨0, ?_⟩; simp (maxSteps := 2000000) -implicitDefEqProofs [-getElem?_pos, List.getElem?_cons_zero, List.getElem?_cons_succ, go_sem, eqV, plen, loadV, storeV, hA1, assignV])
    apply Tells.andThen (P := fun fr H' => ∃ tl, fr = rkB d l e ts cut y ++ tl ∧ (tl = [(83, .bool false)] ∨ tl = [(9, .sl 0 0 0 0), (69, .bool false)] ∨ tl = [(9, .sl 0 0 0 0), (35, .bool false)]))
    · apply Tells.seq (fr' := rkB d l e ts cut y ++ [(9, .sl 0 0 (txR l).length 0), (35, .bool true)]) (H' := [some ob1])
      · unfold rkB
        generalize l.map Va.pay = L at *
        generalize ts.map Ty.pay = T at *
        generalize (txR l).length = N at *
        (refine ⟨0, ?_⟩; simp (maxSteps := 2000000) -implicitDefEqProofs [-getElem?_pos, List.getElem?_cons_zero, List.getElem?_cons_succ, go_sem, eqV, plen, loadV, storeV])
      apply Tells.condT (by simp [evalO, getF, rkB])
      refine (piece (bt_half d l e ts cut y [some ob1] 0 ob1 hd s1 htx (by omega) rfl hw1) _ rfl).mono ?_
      rintro o ⟨h1, h | h⟩
      · exact ⟨h1, _, h, .inl rfl⟩
      · exact ⟨h1, _, h, .inr (.inl rfl)⟩
    rintro fr H' ⟨tl, rfl, htl⟩
    exact piece (rk_bin d l e ts cut y H' tl htl hd he hok h256 s1 s2 s3) _ rfl

end

theorem back_code2 (d : Nat) (l : List Va) (e : Nat) (ts : List Ty) (cut : Int) (k : Nat) (hk : k < 256) (hd : d = 0 → l = []) (he : e = 0 → ts = []) (hok : ∀ p ∈ l, p.okR) (hl : ∀ p ∈ l, p.t.length ≤ 1048576) (h256 : ∀ t ∈ ts, t.t < 256) : ∃ code, Try.f4.body = some code ∧
    Tells (Rets fun fr H => getF fr 8 = .bool true) X (evT X) 4 0 code [(0, .ro d (.pr 12 (l.map Va.pay)) 1), (1, .ro e (.pr 2 (ts.map Ty.pay)) 2), (2, .int .i64 cut), (3, .int .u8 (k : Nat))] [] := by
  have := back_code d l e ts cut (UInt8.ofNat k) hd he hok hl h256
  unfold rkB at this
  rwa [UInt8.toNat_ofNat', Nat.mod_eq_of_lt hk] at this

end Go.Proofs.Ytafdnpcamepbmaa

/- Arguments of laws: values, types, parameters; rows of them. -/
namespace Go.Proofs.Ytafdnpcamepbmaa
open Go.AM
set_option linter.unusedVariables false

/-- a value as it may come -/
def Va.okA (v : Va) : Prop := v.b < 18446744073709551616 ∧ -9223372036854775808 ≤ v.i ∧ v.i < 9223372036854775808

theorem row_pm {r : List AV} {cs : List Value} (h : Cells [.i .u8, .b, .b, .i .i64, .i .i64, .i .u64, .s, .b, .i .i64, .i .i64, .i .i64, .i .i64, .i .i64, .i .i64, .i .i64] r cs) : ∃ p : Pm, AV.pc r = p.pay ∧ p.ok ∧ AV.str p.v.t ∈ r := by
  rcases h with _ | ⟨h0, h⟩
  rcases h with _ | ⟨h1, h⟩
  rcases h with _ | ⟨h2, h⟩
  rcases h with _ | ⟨h3, h⟩
  rcases h with _ | ⟨h4, h⟩
  rcases h with _ | ⟨h5, h⟩
  rcases h with _ | ⟨h6, h⟩
  rcases h with _ | ⟨h7, h⟩
  rcases h with _ | ⟨h8, h⟩
  rcases h with _ | ⟨h9, h⟩
  rcases h with _ | ⟨h10, h⟩
  rcases h with _ | ⟨h11, h⟩
  rcases h with _ | ⟨h12, h⟩
  rcases h with _ | ⟨h13, h⟩
  rcases h with _ | ⟨h14, h⟩
  cases h
  obtain ⟨x0, rfl, _, w0⟩ := h0
  obtain ⟨x0, rfl, b0⟩ := AM.nat_wf rfl w0
  obtain ⟨x1, rfl, _⟩ := h1
  obtain ⟨x2, rfl, _⟩ := h2
  obtain ⟨x3, rfl, _, w3⟩ := h3
  have w3 := AM.i64_wf w3
  obtain ⟨x4, rfl, _, w4⟩ := h4
  have w4 := AM.i64_wf w4
  obtain ⟨x5, rfl, _, w5⟩ := h5
  obtain ⟨x5, rfl, b5⟩ := AM.nat_wf rfl w5
  obtain ⟨x6, rfl, _, _⟩ := h6
  obtain ⟨x7, rfl, _⟩ := h7
  obtain ⟨x8, rfl, _, w8⟩ := h8
  have w8 := AM.i64_wf w8
  obtain ⟨x9, rfl, _, w9⟩ := h9
  have w9 := AM.i64_wf w9
  obtain ⟨x10, rfl, _, w10⟩ := h10
  have w10 := AM.i64_wf w10
  obtain ⟨x11, rfl, _, w11⟩ := h11
  have w11 := AM.i64_wf w11
  obtain ⟨x12, rfl, _, w12⟩ := h12
  have w12 := AM.i64_wf w12
  obtain ⟨x13, rfl, _, w13⟩ := h13
  have w13 := AM.i64_wf w13
  obtain ⟨x14, rfl, _, w14⟩ := h14
  have w14 := AM.i64_wf w14
  exact ⟨⟨⟨x0, x1⟩, x2, ⟨x3, x4, x5, x6, ⟨x7, x8, x9, x10, x11, x12, x13, x14⟩⟩⟩, rfl, ⟨b0, b5, w4.1, Int.lt_of_le_of_lt w4.2 (by decide)⟩, by simp⟩

theorem row_va {r : List AV} {cs : List Value} (h : Cells [.i .i64, .i .i64, .i .u64, .s, .b, .i .i64, .i .i64, .i .i64, .i .i64, .i .i64, .i .i64, .i .i64] r cs) : ∃ p : Va, AV.pc r = p.pay ∧ p.okA ∧ AV.str p.t ∈ r := by
  rcases h with _ | ⟨h0, h⟩
  rcases h with _ | ⟨h1, h⟩
  rcases h with _ | ⟨h2, h⟩
  rcases h with _ | ⟨h3, h⟩
  rcases h with _ | ⟨h4, h⟩
  rcases h with _ | ⟨h5, h⟩
  rcases h with _ | ⟨h6, h⟩
  rcases h with _ | ⟨h7, h⟩
  rcases h with _ | ⟨h8, h⟩
  rcases h with _ | ⟨h9, h⟩
  rcases h with _ | ⟨h10, h⟩
  rcases h with _ | ⟨h11, h⟩
  cases h
  obtain ⟨x0, rfl, _, w0⟩ := h0
  have w0 := AM.i64_wf w0
  obtain ⟨x1, rfl, _, w1⟩ := h1
  have w1 := AM.i64_wf w1
  obtain ⟨x2, rfl, _, w2⟩ := h2
  obtain ⟨x2, rfl, b2⟩ := AM.nat_wf rfl w2
  obtain ⟨x3, rfl, _, _⟩ := h3
  obtain ⟨x4, rfl, _⟩ := h4
  obtain ⟨x5, rfl, _, w5⟩ := h5
  have w5 := AM.i64_wf w5
  obtain ⟨x6, rfl, _, w6⟩ := h6
  have w6 := AM.i64_wf w6
  obtain ⟨x7, rfl, _, w7⟩ := h7
  have w7 := AM.i64_wf w7
  obtain ⟨x8, rfl, _, w8⟩ := h8
  have w8 := AM.i64_wf w8
  obtain ⟨x9, rfl, _, w9⟩ := h9
  have w9 := AM.i64_wf w9
  obtain ⟨x10, rfl, _, w10⟩ := h10
  have w10 := AM.i64_wf w10
  obtain ⟨x11, rfl, _, w11⟩ := h11
  have w11 := AM.i64_wf w11
  exact ⟨⟨x0, x1, x2, x3, ⟨x4, x5, x6, x7, x8, x9, x10, x11⟩⟩, rfl, ⟨b2, w1.1, Int.lt_of_le_of_lt w1.2 (by decide)⟩, by simp⟩

theorem lv_va : leaves Try.prog 6 44 = some [.i .i64, .i .i64, .i .u64, .s, .b, .i .i64, .i .i64, .i .i64, .i .i64, .i .i64, .i .i64, .i .i64] := by kernel_rfl

/-- a row of them -/
theorem arg_vas {H : Type} {enc : TypeId × Value → H} {W : World} {base : Nat} {v : Value} {d : DataW H} {ps : List MemPlace} (hval : Value.okWide Try.prog W .any base 23 v) (hd : DataW.Trod enc Try.prog W 0 (fun _ => true) true 23 v d ps) :
    ∃ (c : Nat) (l : List Va), (∀ p ∈ l, p.okA ∧ AM.StrIn d p.t) ∧ (c = 0 → l = []) ∧ l.length ≤ maxLen ∧ AM.VRel (AM.start W) (AM.T0 W.heap.size) (.ro c (.pr 12 (l.map Va.pay)) 1) v := by
  obtain ⟨c, rows, h1, h2, h3, h4⟩ := AM.arg_rows (show Try.prog.underlying 23 = some (.slice 44) by kernel_rfl) lv_va (by kernel_rfl) (by simp) hval hd
  obtain ⟨l, q1, q2, q3⟩ := AM.rows_as AV.pc Va.pay (Q := fun p => p.okA ∧ AM.StrIn d p.t) (rows := rows) (fun r hr => by
    obtain ⟨⟨cs, h⟩, hs⟩ := h1 r hr
    obtain ⟨p, e, h5⟩ := row_va h
    exact ⟨p, e, h5.1, hs _ h5.2⟩)
  refine ⟨c, l, q3, fun h => ?_, by rw [q2]; exact h3, ?_⟩
  · have := h2 h
    subst this
    exact List.eq_nil_of_length_eq_zero q2
  · rw [← q1]
    exact h4

theorem row_ty {r : List AV} {cs : List Value} (h : Cells [.i .u8, .b] r cs) : ∃ p : Ty, AV.pc r = p.pay ∧ p.t < 256 := by
  rcases h with _ | ⟨h0, h⟩
  rcases h with _ | ⟨h1, h⟩
  cases h
  obtain ⟨x0, rfl, _, w0⟩ := h0
  obtain ⟨x0, rfl, b0⟩ := AM.nat_wf rfl w0
  obtain ⟨x1, rfl, _⟩ := h1
  exact ⟨⟨x0, x1⟩, rfl, b0⟩

theorem lv_ty : leaves Try.prog 6 46 = some [.i .u8, .b] := by kernel_rfl

/-- a row of them -/
theorem arg_tys {H : Type} {enc : TypeId × Value → H} {W : World} {base : Nat} {v : Value} {d : DataW H} {ps : List MemPlace} (hval : Value.okWide Try.prog W .any base 24 v) (hd : DataW.Trod enc Try.prog W 0 (fun _ => true) true 24 v d ps) :
    ∃ (c : Nat) (l : List Ty), (∀ p ∈ l, p.t < 256) ∧ (c = 0 → l = []) ∧ l.length ≤ maxLen ∧ AM.VRel (AM.start W) (AM.T0 W.heap.size) (.ro c (.pr 2 (l.map Ty.pay)) 1) v := by
  obtain ⟨c, rows, h1, h2, h3, h4⟩ := AM.arg_rows (show Try.prog.underlying 24 = some (.slice 46) by kernel_rfl) lv_ty (by kernel_rfl) (by simp) hval hd
  obtain ⟨l, q1, q2, q3⟩ := AM.rows_as AV.pc Ty.pay (Q := fun p => p.t < 256) (rows := rows) (fun r hr => by
    obtain ⟨⟨cs, h⟩, hs⟩ := h1 r hr
    obtain ⟨p, e, h5⟩ := row_ty h
    exact ⟨p, e, h5⟩)
  refine ⟨c, l, q3, fun h => ?_, by rw [q2]; exact h3, ?_⟩
  · have := h2 h
    subst this
    exact List.eq_nil_of_length_eq_zero q2
  · rw [← q1]
    exact h4

end Go.Proofs.Ytafdnpcamepbmaa
