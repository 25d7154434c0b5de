/- HL to HN: texts of this claim, one behind the other; what each shows stands at its head. -/
import Derived.Test.YtconnpileacfeaaMg3
/- Walks: the law PacketChunks: the payloads split. -/
namespace Go.Proofs.Ytconnpileacfeaa
open Go.AM
set_option linter.unusedSimpArgs false
set_option linter.unusedVariables false

theorem split_good {m : Nat} (hm : 0 < m) (hm2 : m ≤ 16777215) (b : List UInt8) (s : Nat) (hb : b.length ≤ 1000000) : split b s (m : Nat) = (fr m b s, fn m b s, 0) := by
  unfold split
  rw [if_neg (by omega), if_neg (by omega), spS_eq]
  rfl

theorem fn_lt {m : Nat} (hm : 0 < m) (b : List UInt8) (s : Nat) : fn m b s < 256 := by
  generalize hn : b.length = n
  induction n using Nat.strongRecOn generalizing b s with
  | _ n ih =>
    rw [fn_eq hm]
    split
    · omega
    · exact ih (n - m) (by omega) _ _ (by rw [List.length_drop]; omega)

theorem emU : rowOf (emptyRow X 5) .none 0 = ⟨.pb [], 0, .none, 0, true, false, 0⟩ := by kernel_rfl
theorem emI : rowOf (emptyRow X 3) .none 0 = ⟨.pi .i64 [], 0, .none, 0, true, false, 0⟩ := by kernel_rfl
theorem bsI (H : AM.Heap) (x : Int) : buildSliceV X H 44 1 [(0, .int .i64 x)] = some (.ro 1 (.pi .i64 [x]) 0, H) := by
  have hz : zeroAV X 3 = .int .i64 0 := by kernel_rfl
  have hm : mkRow X 3 [.int .i64 x] = some (.pi .i64 [x]) := rfl
  simp only [buildSliceV, und44, size3, hz]
  simp [cellsAV, scalars, scalar, setParts, litRow, hm, idsL, ids, tagsL, tags, joinTags]

/-- a number appended -/
theorem app_int {H : AM.Heap} {o g : Nat} {ob : AM.Obj} {l : List Int} {x : Int} (ho : H[o]? = some (some ob)) (h : Rw (.pi .i64 l) g ob) (hn : l.length ≤ 1000000) :
    ∃ ob', Rw (.pi .i64 (l ++ [x])) (g + 1) ob' ∧ appendV X H 44 (.sl o 0 l.length g) (.ro 1 (.pi .i64 [x]) 0) = some (.sl o 0 (l.length + 1) (g + 1), upd H o (some ob')) := by
  have hlive : live H o g = some ob := by simp [live, ho, h.g]
  have hroom : roomOk X 3 (l.length + 1) = true := by simp [roomOk]; omega
  have hsrc : srcV H (.ro 1 (.pi .i64 [x]) 0) = some (.pi .i64 [x], 0) := rfl
  refine ⟨{ ob with p := .pi .i64 (l ++ [x]), g := g + 1, cap := (match ob.cap with | some c => if 0 + l.length + AM.plen (.pi .i64 [x]) ≤ c then some (c - 0) else none | none => none), z := (if AM.plen ob.p = 0 then ob.z else 1), tg := 0 }, ⟨rfl, rfl, h.row, h.ids, rfl⟩, ?_⟩
  unfold appendV
  simp only [und44, size3, zok3, hsrc, hlive, h.row, h.ids, h.p, h.tg]
  rw [if_neg (by simp)]
  have hc : True ∧ True ∧ 0 + l.length = AM.plen (.pi .i64 l) ∧ pesz (.pi .i64 l) = 1 ∧ roomOk X 3 (l.length + AM.plen (.pi .i64 [x])) = true := ⟨trivial, trivial, by simp [AM.plen], rfl, by simpa [AM.plen] using hroom⟩
  rw [if_pos hc]
  simp only [psub, Nat.zero_add, Nat.le_refl, if_true, List.drop_zero, List.take_length, papp, joinTag, pesz]
  simp [AM.plen]
  rfl

section
variable (c c2 m : Nat) (rows : List (Nat × List UInt8)) (cuts : List Int)

/-- the payloads -/
def bds : List (List UInt8) := rows.map Prod.snd

def cuFr (N g K g2 sq i : Nat) (tl : AM.Frame) : AM.Frame := [(0, .ro c (.pc (rows.map bRow)) 1), (1, .int .i64 (m : Nat)), (2, .ro c2 (.pi .i64 cuts) 3), (7, .sl 0 0 N g), (8, .sl 1 0 K g2), (9, .int .u8 (sq : Nat)), (10, .int .i64 (i : Nat))] ++ tl
def cuF2 (N g K g2 i : Nat) (tl : AM.Frame) : AM.Frame := [(0, .ro c (.pc (rows.map bRow)) 1), (1, .int .i64 (m : Nat)), (2, .ro c2 (.pi .i64 cuts) 3), (7, .sl 0 0 N g), (8, .sl 1 0 K g2), (10, .int .i64 (i : Nat))] ++ tl

set_option maxRecDepth 100000 in
set_option maxHeartbeats 4000000 in
/-- one payload split, put behind the others -/
theorem cu_round {H : AM.Heap} (hm : 0 < m) (hm2 : m ≤ 300) (N g g2 sq i rc : Nat) (rb L : List UInt8) (E : List Int) (ob0 ob1 : AM.Obj) (hri : rows[i]? = some (rc, rb)) (hrc : rc = 0 → rb = []) (hrb : rb.length ≤ 300) (hsq : sq < 256)
    (h0 : H[0]? = some (some ob0)) (hw0 : Rw (.pb L) g ob0) (hN : N = L.length) (h1 : H[1]? = some (some ob1)) (hw1 : Rw (.pi .i64 E) g2 ob1) (hE : E.length ≤ 100) (hL : L.length ≤ 100000) :
    ∃ H' ob0' ob1', H'[0]? = some (some ob0') ∧ Rw (.pb (L ++ fr m rb sq)) (g + 1) ob0' ∧ H'[1]? = some (some ob1') ∧ Rw (.pi .i64 (E ++ [((L ++ fr m rb sq).length : Int)])) (g2 + 1) ob1' ∧
      ∀ cd, ((Try.f5.body).bind (codeAt [1, 1, 1, 1, 1, 1, 0, 1, 0, 0, 1, 0])) = some cd → Tells (Goes fun fr' H'' => fr' = cuFr c c2 m rows cuts (L ++ fr m rb sq).length (g + 1) (E.length + 1) (g2 + 1) (fn m rb sq) i [] ∧ H'' = H') X (evT X) 5 0 cd (cuFr c c2 m rows cuts N g E.length g2 sq i [(44, .bool true)]) H := by
  have hi := at_lt hri
  have hiI : (i : Int) < (rows.length : Int) := by omega
  have hfl := fr_len hm rb sq
  have hflb : flen m rb.length ≤ 2000 := by
    unfold flen
    have := Nat.div_le_self rb.length m
    omega
  obtain ⟨obx, hwx, hS⟩ := split_ev (H := H) (a := .ro rc (.pb rb) 1) (b := rb) (s := sq) (m := (m : Nat)) (Byt.ro (.inl rfl) hrc) hsq (by omega)
  rw [split_good hm (by omega) rb sq (by omega)] at hwx hS
  simp only at hwx hS
  have k0 : (H ++ [some obx])[0]? = some (some ob0) := at_cat h0
  have k1 : (H ++ [some obx])[1]? = some (some ob1) := at_cat h1
  have kx : (H ++ [some obx])[H.length]? = some (some obx) := by simp
  have hsrc : srcV (H ++ [some obx]) (.sl H.length 0 (fr m rb sq).length 0) = some (.pb (fr m rb sq), 0) := by
    simp [srcV, live, hwx.g, hwx.ids, hwx.p, psub, payB, ptag]
  obtain ⟨ob0', w0, hA⟩ := app_b (src := .sl H.length 0 (fr m rb sq).length 0) k0 hw0 (.inl hsrc) (by omega)
  have hH0 := at_lt h0
  have hH1 := at_lt h1
  have j0 : (upd (H ++ [some obx]) 0 (some ob0'))[0]? = some (some ob0') := at_set k0
  have j1 : (upd (H ++ [some obx]) 0 (some ob0'))[1]? = some (some ob1) := at_ne k1 (by omega)
  obtain ⟨ob1', w1, hA1⟩ := app_int (x := ((L ++ fr m rb sq).length : Int)) j1 hw1 (by omega)
  have hB1 := bsI (upd (H ++ [some obx]) 0 (some ob0')) ((L ++ fr m rb sq).length : Int)
  have hNl : L.length + (fr m rb sq).length = (L ++ fr m rb sq).length := by rw [List.length_append]
  rw [hNl, ← hN] at hA
  have g0 := w0.g
  refine ⟨upd (upd (H ++ [some obx]) 0 (some ob0')) 1 (some ob1'), ob0', ob1', at_ne j0 (by omega), w0, at_set j1, w1, fun cd hcd => ?_⟩
  refine piece (P := fun cd => Tells _ X (evT X) _ 0 cd _ _) ⟨_, rfl, ?_⟩ _ hcd
  refine Tells.blk ?_ (fun o h => by rw [h.1]; simp)
  have hbI : ¬ ((300 : Int) < (rb.length : Int)) := by omega
  have hbN : ¬ (300 < rb.length) := by omega
  apply Tells.assoc
  apply Tells.seq (fr' := cuFr c c2 m rows cuts N g E.length g2 sq i [(52, .bool false)]) (H' := H)
  · unfold cuFr
    generalize E.length = K at *
    (refine ⟨0, ?_⟩; simp (maxSteps := 2000000) -implicitDefEqProofs [-getElem?_pos, List.getElem?_cons_zero, List.getElem?_cons_succ, go_sem, eqV, plen, loadV, storeV, hi, hiI, hri, bRow, retag, hbI, hbN])
  apply Tells.seq (fr' := cuFr c c2 m rows cuts N g E.length g2 sq i [(52, .bool false)]) (H' := H)
  · exact Run.cond (d := false) rfl ⟨0, rfl⟩
  apply Tells.seq (fr' := cuF2 c c2 m rows cuts N g E.length g2 i [(11, .sl H.length 0 (fr m rb sq).length 0), (12, .int .u8 (fn m rb sq : Nat)), (13, .int .i64 0)]) (H' := H ++ [some obx])
  · unfold cuFr cuF2
    generalize E.length = K at *
    generalize (fr m rb sq).length = F at *
    (refine ⟨0, ?_⟩; simp (maxSteps := 2000000) -implicitDefEqProofs [-getElem?_pos, List.getElem?_cons_zero, List.getElem?_cons_succ, go_sem, eqV, plen, loadV, storeV, hi, hiI, hri, bRow, retag, hS, assignV])
  apply Tells.assoc
  apply Tells.seq (fr' := cuF2 c c2 m rows cuts N g E.length g2 i [(11, .sl H.length 0 (fr m rb sq).length 0), (12, .int .u8 (fn m rb sq : Nat)), (65, .bool false)]) (H' := H ++ [some obx])
  · unfold cuF2
    generalize E.length = K at *
    generalize (fr m rb sq).length = F at *
    (refine ⟨0, ?_⟩; simp (maxSteps := 2000000) -implicitDefEqProofs [-getElem?_pos, List.getElem?_cons_zero, List.getElem?_cons_succ, go_sem, eqV, plen, loadV, storeV])
  apply Tells.seq (fr' := cuF2 c c2 m rows cuts N g E.length g2 i [(11, .sl H.length 0 (fr m rb sq).length 0), (12, .int .u8 (fn m rb sq : Nat)), (65, .bool false)]) (H' := H ++ [some obx])
  · exact Run.cond (d := false) rfl ⟨0, rfl⟩
  apply Tells.seq (fr' := cuF2 c c2 m rows cuts (L ++ fr m rb sq).length (g + 1) E.length g2 i [(12, .int .u8 (fn m rb sq : Nat))]) (H' := upd (H ++ [some obx]) 0 (some ob0'))
  · unfold cuF2
    generalize E.length = K at *
    generalize (fr m rb sq).length = F at *
    generalize (L ++ fr m rb sq).length = M at *
    (refine ⟨0, ?_⟩; simp (maxSteps := 2000000) -implicitDefEqProofs [-getElem?_pos, List.getElem?_cons_zero, List.getElem?_cons_succ, go_sem, eqV, plen, loadV, storeV, hA, assignV])
  apply Tells.seq (fr' := cuF2 c c2 m rows cuts (L ++ fr m rb sq).length (g + 1) (E.length + 1) (g2 + 1) i [(12, .int .u8 (fn m rb sq : Nat))]) (H' := upd (upd (H ++ [some obx]) 0 (some ob0')) 1 (some ob1'))
  · unfold cuF2
    generalize hM : (L ++ fr m rb sq).length = M at *
    generalize upd (H ++ [some obx]) 0 (some ob0') = HA at *
    generalize hK : E.length = K at *
    (refine ⟨0, ?_⟩; simp (maxSteps := 2000000) -implicitDefEqProofs [-getElem?_pos, List.getElem?_cons_zero, List.getElem?_cons_succ, go_sem, eqV, plen, loadV, storeV, j0, g0, hB1, hA1, assignV])
  refine Tells.of (o := ⟨.normal, cuFr c c2 m rows cuts (L ++ fr m rb sq).length (g + 1) (E.length + 1) (g2 + 1) (fn m rb sq) i [], upd (upd (H ++ [some obx]) 0 (some ob0')) 1 (some ob1')⟩) ⟨0, ?_⟩ ⟨rfl, rfl, rfl⟩
  unfold cuF2 cuFr
  generalize (L ++ fr m rb sq).length = M at *
  generalize E.length = K at *
  simp (maxSteps := 2000000) -implicitDefEqProofs [-getElem?_pos, List.getElem?_cons_zero, List.getElem?_cons_succ, go_sem, eqV, plen, loadV, storeV]

/-- where the first i payloads end -/
def eds (i : Nat) : List Int := (List.range i).map fun k => ((stl m ((bds rows).take (k + 1)) : Nat) : Int)
theorem eds_succ (i : Nat) : eds m rows (i + 1) = eds m rows i ++ [((stl m ((bds rows).take (i + 1)) : Nat) : Int)] := by
  unfold eds; rw [List.range_succ, List.map_append]; rfl
theorem eds_len (i : Nat) : (eds m rows i).length = i := by unfold eds; simp

theorem bds_at {i rc : Nat} {rb : List UInt8} (h : rows[i]? = some (rc, rb)) : (bds rows)[i]? = some rb := by
  unfold bds; rw [List.getElem?_map, h]; rfl
theorem tk_snoc {α : Type} {l : List α} {i : Nat} {x : α} (h : l[i]? = some x) : l.take (i + 1) = l.take i ++ [x] := by
  rw [List.take_add_one, h]; rfl

theorem stl_le : ∀ (l : List (List UInt8)), (∀ b ∈ l, b.length ≤ 300) → stl m l ≤ 2000 * l.length
  | [], _ => by simp [stl]
  | b :: r, h => by
    have h1 := stl_le r fun b hb => h b (List.mem_cons_of_mem _ hb)
    have h2 := h b (List.mem_cons_self ..)
    have h3 : flen m b.length ≤ 2000 := by
      unfold flen
      have := Nat.div_le_self b.length m
      omega
    rw [stl, List.length_cons]
    omega

def cuOk (N g g2 : Nat) (i : Nat) (H : AM.Heap) : Prop := ∃ ob0 ob1, H[0]? = some (some ob0) ∧ Rw (.pb (stm m ((bds rows).take i) 0)) g ob0 ∧ N = (stm m ((bds rows).take i) 0).length ∧ H[1]? = some (some ob1) ∧ Rw (.pi .i64 (eds m rows i)) g2 ob1 ∧ ∀ b ∈ (bds rows).take i, b.length ≤ 300

theorem stn_lt (hm : 0 < m) : ∀ (l : List (List UInt8)) (s : Nat), s < 256 → stn m l s < 256
  | [], s, h => h
  | b :: r, s, _ => by rw [stn]; exact stn_lt hm r _ (fn_lt hm b s)

set_option maxRecDepth 100000 in
set_option maxHeartbeats 4000000 in
theorem cu_loop {H0 : AM.Heap} (hm : 0 < m) (hm2 : m ≤ 300) (hrl : rows.length ≤ 20) (hrc : ∀ r ∈ rows, r.1 = 0 → r.2 = []) (h0 : cuOk m rows 0 0 0 0 H0) :
    ∃ code, ((Try.f5.body).bind (codeAt [1, 1, 1, 1, 1, 1, 0, 1])) = some code ∧ Tells (Or2 (fun fr' H => ∃ N g g2, fr' = cuFr c c2 m rows cuts N g rows.length g2 (stn m (bds rows) 0) rows.length [(44, .bool false)] ∧ cuOk m rows N g g2 rows.length H) (fun o => o.ex = .ret ∧ getF o.fr 6 = .bool true)) X (evT X) 5 0 code (cuFr c c2 m rows cuts 0 0 0 0 0 0 []) H0 := by
  refine ⟨_, rfl, ?_⟩
  refine Tells.blockOr (Q := fun o => o.ex = .ret ∧ getF o.fr 6 = .bool true) (P := fun fr' H => ∃ N g g2, fr' = cuFr c c2 m rows cuts N g rows.length g2 (stn m (bds rows) 0) rows.length [(44, .bool false)] ∧ cuOk m rows N g g2 rows.length H) ?_
  refine Tells.loopP (fun k fr' H => ∃ i N g g2, k = rows.length - i ∧ i ≤ rows.length ∧ fr' = cuFr c c2 m rows cuts N g i g2 (stn m ((bds rows).take i) 0) i [] ∧ cuOk m rows N g g2 i H) ?_ (k := rows.length) ⟨0, 0, 0, 0, rfl, by omega, rfl, h0⟩
  rintro k fr' H ⟨i, N, g, g2, rfl, hi, rfl, ob0, ob1, k0, w0, hN, k1, w1, hall⟩
  apply Tells.assoc
  by_cases hin : i = rows.length
  · subst hin
    have hiI : ¬ ((rows.length : Int) < (rows.length : Int)) := by omega
    have htk : (bds rows).take rows.length = bds rows := List.take_of_length_le (by simp [bds])
    refine Tells.of (o := ⟨.exit 0, cuFr c c2 m rows cuts N g rows.length g2 (stn m (bds rows) 0) rows.length [(44, .bool false)], H⟩) ⟨0, ?_⟩ (.inr ⟨by simp, .inl ⟨rfl, N, g, g2, rfl, ob0, ob1, k0, w0, hN, k1, w1, hall⟩⟩)
    rw [htk]
    unfold cuFr
    generalize stn m (bds rows) 0 = sq
    simp (maxSteps := 2000000) -implicitDefEqProofs [-getElem?_pos, List.getElem?_cons_zero, List.getElem?_cons_succ, go_sem, eqV, plen, loadV, storeV]
  · obtain ⟨⟨rc, rb⟩, hri⟩ : ∃ r, rows[i]? = some r := ⟨_, List.getElem?_eq_getElem (by omega)⟩
    have hlt := at_lt hri
    have hiI : (i : Int) < (rows.length : Int) := by omega
    apply Tells.seq (fr' := cuFr c c2 m rows cuts N g i g2 (stn m ((bds rows).take i) 0) i [(44, .bool true)]) (H' := H)
    · unfold cuFr
      generalize stn m ((bds rows).take i) 0 = sq
      (refine ⟨0, ?_⟩; simp (maxSteps := 2000000) -implicitDefEqProofs [-getElem?_pos, List.getElem?_cons_zero, List.getElem?_cons_succ, go_sem, eqV, plen, loadV, storeV, hlt, hiI])
    apply Tells.seq (fr' := cuFr c c2 m rows cuts N g i g2 (stn m ((bds rows).take i) 0) i [(44, .bool true)]) (H' := H)
    · exact Run.cond (d := true) rfl ⟨0, rfl⟩
    by_cases hb : 300 < rb.length
    · have hbI : (300 : Int) < (rb.length : Int) := by omega
      refine Tells.of (o := ⟨.ret, [(6, .bool true)], H⟩) ⟨0, ?_⟩ (.inr ⟨by simp, .inr ⟨rfl, rfl, rfl⟩⟩)
      unfold cuFr
      generalize stn m ((bds rows).take i) 0 = sq
      simp (maxSteps := 2000000) -implicitDefEqProofs [-getElem?_pos, List.getElem?_cons_zero, List.getElem?_cons_succ, go_sem, eqV, plen, loadV, storeV, hlt, hiI, hri, bRow, retag, hb, hbI]
    have hsq := stn_lt m hm ((bds rows).take i) 0 (by omega)
    have hLl := stm_len hm ((bds rows).take i) 0
    have hLb := stl_le m ((bds rows).take i) hall
    have hLb2 : ((bds rows).take i).length ≤ 20 := by rw [List.length_take]; simp [bds]; omega
    have hel := eds_len m rows i
    obtain ⟨H', ob0', ob1', q0, q1, q2, q3, q4⟩ := cu_round c c2 m rows cuts (H := H) hm hm2 N g g2 (stn m ((bds rows).take i) 0) i rc rb _ _ ob0 ob1 hri (hrc _ (List.mem_of_getElem? hri)) (by omega) hsq k0 w0 hN k1 w1 (by omega) (by omega)
    have hba := bds_at rows hri
    have htk := tk_snoc hba
    have e1 : stm m ((bds rows).take i) 0 ++ fr m rb (stn m ((bds rows).take i) 0) = stm m ((bds rows).take (i + 1)) 0 := by
      rw [htk, stm_app, stm, stm, List.append_nil]
    have e2 : fn m rb (stn m ((bds rows).take i) 0) = stn m ((bds rows).take (i + 1)) 0 := by
      rw [htk, stn_app, stn, stn]
    have e3 : eds m rows i ++ [((stm m ((bds rows).take (i + 1)) 0).length : Int)] = eds m rows (i + 1) := by
      rw [eds_succ, stm_len hm]
    rw [e1] at q1 q3 q4
    rw [e3] at q3
    rw [e2, hel] at q4
    have w2 : IntKind.i64.wrap ((i : Int) + 1) = ((i + 1 : Nat) : Int) := by rw [wrap_i64 (by omega) (by omega)]; omega
    apply Tells.andThen (q4 _ rfl)
    rintro fr' H'' ⟨rfl, rfl⟩
    refine Tells.of (o := ⟨.normal, cuFr c c2 m rows cuts (stm m ((bds rows).take (i + 1)) 0).length (g + 1) (i + 1) (g2 + 1) (stn m ((bds rows).take (i + 1)) 0) (i + 1) [], H''⟩) ⟨0, ?_⟩ (.inl ⟨rfl, rows.length - (i + 1), by omega, i + 1, _, _, _, rfl, by omega, rfl, ob0', ob1', q0, q1, rfl, q2, q3, ?_⟩)
    · unfold cuFr
      generalize (stm m ((bds rows).take (i + 1)) 0).length = M
      generalize stn m ((bds rows).take (i + 1)) 0 = sq
      simp (maxSteps := 2000000) -implicitDefEqProofs [-getElem?_pos, List.getElem?_cons_zero, List.getElem?_cons_succ, go_sem, eqV, plen, loadV, storeV, w2]
    · intro b hb2
      rw [htk] at hb2
      rcases List.mem_append.1 hb2 with h | h
      · exact hall b h
      · simp only [List.mem_cons, List.not_mem_nil, or_false] at h
        rw [h]; omega

end

end Go.Proofs.Ytconnpileacfeaa

/- Walks: the law PacketChunks: a chunk fed. -/
namespace Go.Proofs.Ytconnpileacfeaa
open Go.AM
set_option linter.unusedSimpArgs false
set_option linter.unusedVariables false

theorem CIn.len {s : Rd} {m lim fin : Nat} {R : List UInt8} {bs : List (List UInt8)} (hm : 0 < m) (h : CIn s m lim fin R bs) : s.rest.length + R.length ≤ stl m bs ∧ (∀ b ∈ bs, b.length ≤ lim → True) := by
  obtain ⟨_, _, _, _, hc⟩ := h
  refine ⟨?_, fun _ _ _ => trivial⟩
  cases bs with
  | nil =>
    obtain ⟨h1, _⟩ := hc
    have := congrArg List.length h1
    rw [List.length_append, List.length_nil] at this
    omega
  | cons cur r =>
    obtain ⟨tail, h1, h2, _⟩ := hc
    have h3 := congrArg List.length h2
    have h4 := congrArg List.length h1
    rw [List.length_append, List.length_append, stm_len hm, fr_len hm] at h3
    rw [List.length_append] at h4
    have := flen_mono (m := m) (show tail.length ≤ cur.length by omega)
    rw [stl]
    omega

section
variable (c m : Nat) (rows : List (Nat × List UInt8))

def cvFr (g2 sq o told at' oC NC i : Nat) (tl : AM.Frame) : AM.Frame := [(0, .ro c (.pc (rows.map bRow)) 1), (8, .sl 1 0 rows.length g2), (9, .int .u8 (sq : Nat)), (14, .ptr o 0 0 0), (16, .int .i64 (told : Nat)), (17, .int .i64 (at' : Nat)), (18, .sl oC 0 NC 0), (19, .int .i64 (i : Nat))] ++ tl

theorem eds_at {i k : Nat} (h : k < i) : (eds m rows i)[k]? = some ((stl m ((bds rows).take (k + 1)) : Nat) : Int) := by
  unfold eds
  rw [List.getElem?_map, List.getElem?_range h]; rfl

set_option maxRecDepth 100000 in
set_option maxHeartbeats 4000000 in
/-- the payloads told are those that were split, no earlier than they may be -/
theorem cv_in {H : AM.Heap} (g2 sq o told0 at' oC NC i O : Nat) (out : List Pk) (ob1 : AM.Obj) (hrl : rows.length ≤ 20) (hrc : ∀ r ∈ rows, r.1 = 0 → r.2 = []) (hp : PkR 0 H O out.length 0 out) (h1 : H[1]? = some (some ob1)) (hw1 : Rw (.pi .i64 (eds m rows rows.length)) g2 ob1)
    (hout : ∀ k p, out[k]? = some p → ∃ r, rows[told0 + k]? = some r ∧ p.body = r.2 ∧ stl m ((bds rows).take (told0 + k + 1)) ≤ at') :
    ∃ code, ((Try.f5.body).bind (codeAt [1, 1, 1, 1, 1, 1, 1, 1, 1, 1, 1, 0, 1, 0, 0, 1, 0, 0, 1, 1, 1, 0, 1])) = some code ∧ Tells (Goes fun fr' H' => fr' = cvFr c rows g2 sq o (told0 + out.length) at' oC NC i [(20, .sl O 0 out.length 0), (22, .int .i64 (out.length : Nat)), (116, .bool false)] ∧ H' = H) X (evT X) 5 0 code (cvFr c rows g2 sq o told0 at' oC NC i [(20, .sl O 0 out.length 0), (22, .int .i64 0)]) H := by
  refine ⟨_, rfl, ?_⟩
  obtain ⟨l, ob, τ, hτ, hf, hN, ho, hw⟩ := id hp
  have hll := f2_len hf
  have hτ0 : τ = 0 := by omega
  subst hτ0
  obtain ⟨q, gg, cap, zz, row, ids', tg⟩ := ob
  obtain ⟨q1, q2, q3, q4, q5⟩ := hw
  simp only at q1 q2 q3 q4 q5
  subst q1 q2 q3 q4 q5
  have hg1 := hw1.g
  have hi1 := hw1.ids
  have hp1 := hw1.p
  have hol : out.length ≤ 20 := by
    by_cases h0 : out.length = 0
    · omega
    · obtain ⟨r, hr, _⟩ := hout (out.length - 1) _ (List.getElem?_eq_getElem (by omega))
      have := at_lt hr
      omega
  refine Tells.block (P := fun fr' H' => fr' = cvFr c rows g2 sq o (told0 + out.length) at' oC NC i [(20, .sl O 0 out.length 0), (22, .int .i64 (out.length : Nat)), (116, .bool false)] ∧ H' = H) ?_
  refine Tells.loopP (fun k fr' H' => ∃ j, k = out.length - j ∧ j ≤ out.length ∧ H' = H ∧ fr' = cvFr c rows g2 sq o (told0 + j) at' oC NC i [(20, .sl O 0 out.length 0), (22, .int .i64 (j : Nat))]) ?_ (k := out.length) ⟨0, rfl, by omega, rfl, rfl⟩
  rintro k fr' H' ⟨j, rfl, hj, rfl, rfl⟩
  by_cases hjn : j = out.length
  · have hjI : ¬ ((j : Int) < (out.length : Int)) := by omega
    have hjN : ¬ (j < out.length) := by omega
    refine Tells.of (o := ⟨.exit 4, cvFr c rows g2 sq o (told0 + j) at' oC NC i [(20, .sl O 0 out.length 0), (22, .int .i64 (j : Nat)), (116, .bool false)], H'⟩) ⟨0, ?_⟩ (.inr ⟨by simp, rfl, by rw [← hjn], rfl⟩)
    generalize out.length = N at *
    generalize told0 + j = td at *
    unfold cvFr
    simp (maxSteps := 2000000) -implicitDefEqProofs [-getElem?_pos, List.getElem?_cons_zero, List.getElem?_cons_succ, go_sem, eqV, plen, loadV, storeV, ho, hjI, hjN]
  · obtain ⟨p, hpj⟩ : ∃ p, out[j]? = some p := ⟨_, List.getElem?_eq_getElem (by omega)⟩
    obtain ⟨v, hv, cb, τ2, _, hb, _, rfl⟩ := pkL_at' hf hpj
    obtain ⟨⟨rc, rb⟩, hr, hbody, hat⟩ := hout j p hpj
    have hjI : (j : Int) < (out.length : Int) := by omega
    have hjN : j < out.length := by omega
    have hjL : j < l.length := by omega
    have hed := eds_at m rows (i := rows.length) (k := told0 + j) (at_lt hr)
    have hel := eds_len m rows rows.length
    have htl := at_lt hr
    obtain ⟨td, htd⟩ : ∃ td, td = told0 + j := ⟨_, rfl⟩
    rw [← htd] at hr hed htl hat ⊢
    have t1 : ¬ ((rows.length : Int) ≤ (td : Int)) := by omega
    have t2 : (td : Int) < (rows.length : Int) := by omega
    have t1N : ¬ (rows.length ≤ td) := by omega
    generalize stl m ((bds rows).take (td + 1)) = e at *
    have t3 : ¬ ((at' : Int) < (e : Int)) := by omega
    have t3N : ¬ (at' < e) := by omega
    have hS := sameB_ev (H := H') (a := .ro cb (.pb p.body) 0) (a2 := .ro rc (.pb rb) 1) (Byt.ro (.inl rfl) hb) (Byt.ro (.inl rfl) (hrc _ (List.mem_of_getElem? hr)))
    rw [show p.body = rb from hbody, beq_self_eq_true] at hS
    rw [show p.body = rb from hbody] at hv
    have w1 : IntKind.i64.wrap ((j : Int) + 1) = ((j + 1 : Nat) : Int) := by rw [wrap_i64 (by omega) (by omega)]; omega
    have w2 : IntKind.i64.wrap ((td : Int) + 1) = ((td + 1 : Nat) : Int) := by rw [wrap_i64 (by omega) (by omega)]; omega
    refine Tells.of (o := ⟨.normal, cvFr c rows g2 sq o (td + 1) at' oC NC i [(20, .sl O 0 out.length 0), (22, .int .i64 ((j + 1 : Nat) : Int))], H'⟩) ⟨0, ?_⟩ (.inl ⟨rfl, out.length - (j + 1), by omega, j + 1, rfl, by omega, rfl, by rw [show told0 + (j + 1) = td + 1 by omega]⟩)
    obtain ⟨eL, heL⟩ : ∃ eL, eL = eds m rows rows.length := ⟨_, rfl⟩
    rw [← heL] at hed hel hp1
    have t4 : td < eL.length := by omega
    generalize hgn : out.length = N at *
    unfold cvFr
    simp (maxSteps := 2000000) -implicitDefEqProofs [-getElem?_pos, List.getElem?_cons_zero, List.getElem?_cons_succ, go_sem, eqV, plen, loadV, storeV, ho, hjI, hjN, hjL, hv, t1, t1N, t2, htl, h1, hg1, hi1, hp1, hed, t3, t3N, hr, bRow, hS, w1, w2, retag, unV]

/-- how the chunks stand: s at i, told payloads told, at' bytes fed -/
structure CvI (fin o oC : Nat) (chs : List (List UInt8)) (g2 told at' i : Nat) (s : Rd) (H : AM.Heap) : Prop where
  en : ∃ ob1, H[1]? = some (some ob1) ∧ Rw (.pi .i64 (eds m rows rows.length)) g2 ob1
  ch : ∃ obC l, H[oC]? = some (some obC) ∧ ChL chs l ∧ Rw (.pc l) 0 obC
  rd : ∃ oa oc, RdC 0 H o s oa oc ∧ 1 ∉ rdπ o oa oc ∧ oC ∉ rdπ o oa oc
  cin : CIn s m 300 fin (chs.drop i).flatten ((bds rows).drop told)
  tl : told ≤ rows.length
  ad : at' + ((chs.drop i).flatten).length = stl m (bds rows)
  stp : i = 0 ∨ ∀ b r, (bds rows).drop told = b :: r → stl m r < ((chs.drop i).flatten).length

theorem stl_take (k : Nat) (l : List (List UInt8)) : stl m l = stl m (l.take k) + stl m (l.drop k) := by
  rw [← stl_app, List.take_append_drop]

set_option maxRecDepth 100000 in
set_option maxHeartbeats 4000000 in
theorem cv_round {H : AM.Heap} {fin o oC : Nat} {chs : List (List UInt8)} {s : Rd} (g2 sq told at' i : Nat) (hm : 0 < m) (hm2 : m ≤ 300) (hrl : rows.length ≤ 20) (hrc : ∀ r ∈ rows, r.1 = 0 → r.2 = []) (hr3 : ∀ r ∈ rows, r.2.length ≤ 300) (hchl : chs.length ≤ 100000) (hi : i < chs.length) (h : CvI m rows fin o oC chs g2 told at' i s H) :
    ∃ told2 at2 s2 H2 tl, CvI m rows fin o oC chs g2 told2 at2 (i + 1) s2 H2 ∧ ∃ code, ((Try.f5.body).bind (codeAt [1, 1, 1, 1, 1, 1, 1, 1, 1, 1, 1, 0, 1, 0, 0, 1, 0])) = some code ∧ Tells (Goes fun fr' H' => fr' = cvFr c rows g2 sq o told2 at2 oC chs.length i tl ∧ H' = H2) X (evT X) 5 0 code (cvFr c rows g2 sq o told at' oC chs.length i [(92, .bool true)]) H := by
  obtain ⟨⟨ob1, k1, w1⟩, ⟨obC, l, kC, hl, wC⟩, ⟨oa, oc, hR, n1, nC⟩, hcin, htl, had, hstp⟩ := h
  obtain ⟨x, hx⟩ : ∃ x, chs[i]? = some x := ⟨_, List.getElem?_eq_getElem hi⟩
  obtain ⟨v, hv, cb, τ, hcb, rfl⟩ := chL_at hl hx
  have hdr : (chs.drop i).flatten = x ++ (chs.drop (i + 1)).flatten := by
    obtain ⟨h1, h2⟩ := List.getElem?_eq_some_iff.1 hx
    rw [List.drop_eq_getElem_cons h1, h2]; rfl
  rw [hdr] at hcin had hstp
  obtain ⟨R2, hR2⟩ : ∃ R2, R2 = (chs.drop (i + 1)).flatten := ⟨_, rfl⟩
  rw [← hR2] at hcin had hstp
  rw [List.length_append] at had
  have hbl3 : ∀ b ∈ bds rows, b.length ≤ 300 := by
    intro b hb
    obtain ⟨r, hr, rfl⟩ := List.mem_map.1 hb
    exact hr3 r hr
  have htot : stl m (bds rows) ≤ 40000 := by
    have := stl_le m (bds rows) hbl3
    have : (bds rows).length = rows.length := by simp [bds]
    omega
  have hlen := (hcin.len hm).1
  have hdtl := stl_take m told (bds rows)
  have hbody : s.body.length ≤ 300 := by
    obtain ⟨_, _, _, _, hc⟩ := id hcin
    generalize hD : (bds rows).drop told = D at hc
    cases D with
    | nil => rw [hc.2.1]; simp
    | cons cur r =>
      obtain ⟨tail, q, _⟩ := hc
      have := congrArg List.length q
      rw [List.length_append] at this
      have h3 := hbl3 cur (List.mem_of_mem_drop (by rw [hD]; exact List.mem_cons_self ..))
      omega
  rw [List.length_append] at hlen
  obtain ⟨O, H1, oa1, oc1, hF, hC1, hp1, hO1, hHl, hk1, ha1, hc1⟩ := hfeed_ev (c := cb) (t := 0) (b := x) hR (by rw [hcin.em]; omega) hcin.nx (by omega)
  have hhd : hdR s x = fdL ((s.rest ++ x).length + 1) { s with rest := s.rest ++ x } [] := by unfold hdR; rw [if_neg (by simp [hcin.st])]
  have hcin2 : CIn { s with rest := s.rest ++ x } m 300 fin R2 ((bds rows).drop told) := by
    obtain ⟨a1, a2, a3, a4, a5⟩ := hcin
    refine ⟨a1, a2, a3, a4, ?_⟩
    generalize (bds rows).drop told = D at a5
    cases D with
    | nil => exact ⟨by rw [← a5.1]; simp, a5.2⟩
    | cons cur r =>
      obtain ⟨tail, q1, q2, q3⟩ := a5
      exact ⟨tail, q1, by rw [← q2]; simp, q3⟩
  obtain ⟨outs, bs2, e1, e2, e3, e4, e5⟩ := fdL_str hm (by omega) ((s.rest ++ x).length + 1) { s with rest := s.rest ++ x } [] R2 ((bds rows).drop told) (by simp) hcin2 (fun b hb => hbl3 b (List.mem_of_mem_drop hb))
  rw [← hhd] at e1 e3 e4
  rw [List.nil_append] at e1
  generalize hdR s x = y at *
  obtain ⟨s2, out, e⟩ := y
  simp only at e1 e3 e4 hF hC1 hp1
  subst e1 e3
  have hbs2 : bs2 = (bds rows).drop (told + out.length) := by
    have := congrArg (List.drop out.length) e2
    rw [List.drop_drop, List.drop_left' (by simp)] at this
    exact this.symm
  have htold2 : told + out.length ≤ rows.length := by
    have := congrArg List.length e2
    rw [List.length_drop, List.length_append, List.length_map] at this
    have hbr : (bds rows).length = rows.length := by simp [bds]
    omega
  have hlen2 := (e4.len hm).1
  obtain ⟨at2, hat2⟩ : ∃ a, a = at' + x.length := ⟨_, rfl⟩
  have hsplit := stl_take m (told + out.length) (bds rows)
  rw [← hbs2] at hsplit
  have hout : ∀ k p, out[k]? = some p → ∃ r, rows[told + k]? = some r ∧ p.body = r.2 ∧ stl m ((bds rows).take (told + k + 1)) ≤ at2 := by
    intro k p hp
    have hk := at_lt hp
    have h1 : ((bds rows).drop told)[k]? = some p.body := by
      rw [e2, List.getElem?_append_left (by simpa using hk), List.getElem?_map, hp]; rfl
    rw [List.getElem?_drop] at h1
    unfold bds at h1
    rw [List.getElem?_map, Option.map_eq_some_iff] at h1
    obtain ⟨r, h2, h3⟩ := h1
    refine ⟨r, h2, h3.symm, ?_⟩
    have h4 := stl_take m (told + k + 1) ((bds rows).take (told + out.length))
    rw [List.take_take, Nat.min_eq_left (by omega)] at h4
    omega
  have k1' : H1[1]? = some (some ob1) := by rw [hk1 1 (at_lt k1) n1]; exact k1
  have kC' : H1[oC]? = some (some obC) := by rw [hk1 oC (at_lt kC) nC]; exact kC
  have n1' : 1 ∉ rdπ o oa1 oc1 := by
    intro h
    unfold rdπ at h
    simp only [List.mem_cons, List.mem_append, Option.mem_toList] at h
    rcases h with h | h | h
    · exact n1 (by simp [rdπ, h])
    · rcases (ha1 1 h).2 with h | h
      · exact n1 h
      · have := at_lt k1; omega
    · rcases (hc1 1 h).2 with h | h
      · exact n1 h
      · have := at_lt k1; omega
  have nC' : oC ∉ rdπ o oa1 oc1 := by
    intro h
    unfold rdπ at h
    simp only [List.mem_cons, List.mem_append, Option.mem_toList] at h
    rcases h with h | h | h
    · exact nC (by simp [rdπ, h])
    · rcases (ha1 oC h).2 with h | h
      · exact nC h
      · have := at_lt kC; omega
    · rcases (hc1 oC h).2 with h | h
      · exact nC h
      · have := at_lt kC; omega
  refine ⟨told + out.length, at2, s2, H1, [(157, .bool false)], ⟨⟨ob1, k1', w1⟩, ⟨obC, l, kC', hl, wC⟩, ⟨oa1, oc1, hC1, n1', nC'⟩, by rw [← hR2, ← hbs2]; exact e4, htold2, by rw [← hR2]; omega, .inr (by rw [← hR2, ← hbs2]; exact e5)⟩, _, rfl, ?_⟩
  have hll := chL_len hl
  have hgC := wC.g
  have hiC := wC.ids
  have hpC := wC.p
  have htC := wC.tg
  have hiI : (i : Int) < (chs.length : Int) := by omega
  have hil : i < l.length := by omega
  have wat : IntKind.i64.wrap ((at' : Int) + (x.length : Int)) = (at2 : Int) := by rw [wrap_i64 (by omega) (by omega)]; omega
  refine Tells.blk ?_ (fun o h => by rw [h.1]; simp)
  apply Tells.seq (fr' := cvFr c rows g2 sq o told at' oC chs.length i [(20, .sl O 0 out.length 0), (21, .int .i64 0)]) (H' := H1)
  · unfold cvFr
    generalize out.length = N at *
    generalize chs.length = NC at *
    generalize rows.length = NR at *
    (refine ⟨0, ?_⟩; simp (maxSteps := 2000000) -implicitDefEqProofs [-getElem?_pos, List.getElem?_cons_zero, List.getElem?_cons_succ, go_sem, eqV, plen, loadV, storeV, kC, hgC, hiC, hpC, htC, hiI, hi, hil, hv, hF, retag, assignV])
  apply Tells.seq (fr' := cvFr c rows g2 sq o told at2 oC chs.length i [(20, .sl O 0 out.length 0), (21, .int .i64 0)]) (H' := H1)
  · unfold cvFr
    generalize out.length = N at *
    generalize chs.length = NC at *
    generalize rows.length = NR at *
    (refine ⟨0, ?_⟩; simp (maxSteps := 2000000) -implicitDefEqProofs [-getElem?_pos, List.getElem?_cons_zero, List.getElem?_cons_succ, go_sem, eqV, plen, loadV, storeV, kC', hgC, hiC, hpC, htC, hiI, hi, hil, hv, retag, wat])
  apply Tells.assoc
  apply Tells.seq (fr' := cvFr c rows g2 sq o told at2 oC chs.length i [(20, .sl O 0 out.length 0), (112, .bool false)]) (H' := H1)
  · unfold cvFr
    generalize out.length = N at *
    generalize chs.length = NC at *
    generalize rows.length = NR at *
    (refine ⟨0, ?_⟩; simp (maxSteps := 2000000) -implicitDefEqProofs [-getElem?_pos, List.getElem?_cons_zero, List.getElem?_cons_succ, go_sem, eqV, plen, loadV, storeV])
  apply Tells.seq (fr' := cvFr c rows g2 sq o told at2 oC chs.length i [(20, .sl O 0 out.length 0), (112, .bool false)]) (H' := H1)
  · exact Run.cond (d := false) rfl ⟨0, rfl⟩
  apply Tells.assoc
  apply Tells.seq (fr' := cvFr c rows g2 sq o told at2 oC chs.length i [(20, .sl O 0 out.length 0), (22, .int .i64 0)]) (H' := H1)
  · unfold cvFr
    generalize out.length = N at *
    generalize chs.length = NC at *
    generalize rows.length = NR at *
    (refine ⟨0, ?_⟩; simp (maxSteps := 2000000) -implicitDefEqProofs [-getElem?_pos, List.getElem?_cons_zero, List.getElem?_cons_succ, go_sem, eqV, plen, loadV, storeV])
  apply Tells.andThen (piece (cv_in c m rows (H := H1) g2 sq o told at2 oC chs.length i O out ob1 hrl hrc hp1 k1' w1 hout) _ rfl)
  rintro fr' H' ⟨rfl, rfl⟩
  have hg1 := w1.g
  have hi1 := w1.ids
  have hp1' := w1.p
  obtain ⟨td, htd⟩ : ∃ td, td = told + out.length := ⟨_, rfl⟩
  rw [← htd] at htold2 hsplit hbs2 ⊢
  apply Tells.seq (fr' := cvFr c rows g2 sq o td at2 oC chs.length i [(157, .bool false)]) (H' := H')
  · by_cases hlt : td < rows.length
    · have hed := eds_at m rows hlt
      have hel := eds_len m rows rows.length
      have hltI : (td : Int) < (rows.length : Int) := by omega
      have hlt2 : td < (bds rows).length := by simp [bds]; omega
      have hgt : at2 < stl m ((bds rows).take (td + 1)) := by
        have h1 := e5 _ _ (hbs2.trans (List.drop_eq_getElem_cons hlt2))
        have h2 := stl_take m (td + 1) (bds rows)
        omega
      generalize stl m ((bds rows).take (td + 1)) = e at *
      have hgtI : ¬ ((e : Int) ≤ (at2 : Int)) := by omega
      have hgtN : ¬ (e ≤ at2) := by omega
      obtain ⟨eL, heL⟩ : ∃ eL, eL = eds m rows rows.length := ⟨_, rfl⟩
      rw [← heL] at hed hel hp1'
      have t4 : td < eL.length := by omega
      unfold cvFr
      generalize out.length = N at *
      generalize chs.length = NC at *
      (refine ⟨0, ?_⟩; simp (maxSteps := 2000000) -implicitDefEqProofs [-getElem?_pos, List.getElem?_cons_zero, List.getElem?_cons_succ, go_sem, eqV, plen, loadV, storeV, hlt, hltI, k1', hg1, hi1, hp1', hed, t4, hgtI, hgtN])
    · have hltI : ¬ ((td : Int) < (rows.length : Int)) := by omega
      unfold cvFr
      generalize out.length = N at *
      generalize chs.length = NC at *
      (refine ⟨0, ?_⟩; simp (maxSteps := 2000000) -implicitDefEqProofs [-getElem?_pos, List.getElem?_cons_zero, List.getElem?_cons_succ, go_sem, eqV, plen, loadV, storeV, hlt, hltI])
  exact Tells.of (o := ⟨.normal, cvFr c rows g2 sq o td at2 oC chs.length i [(157, .bool false)], H'⟩) (Run.cond (d := false) rfl ⟨0, rfl⟩) ⟨rfl, rfl, rfl⟩

end

end Go.Proofs.Ytconnpileacfeaa

/- Walks: the law PacketChunks, whole. -/
namespace Go.Proofs.Ytconnpileacfeaa
open Go.AM
set_option linter.unusedSimpArgs false
set_option linter.unusedVariables false

theorem chk_pos : ∀ (b : List UInt8) (l : List Int), 0 < (chk b l).length
  | b, [] => by simp [chk]
  | b, x :: r => by unfold chk; split <;> simp

section
variable (c c2 : Nat) (rows : List (Nat × List UInt8)) (cuts : List Int)

set_option maxRecDepth 100000 in
set_option maxHeartbeats 4000000 in
theorem cu_guard (n : Int) (h : 20 < rows.length ∨ n < 1 ∨ 300 < n ∨ 3000 < cuts.length) : ∃ code, ((Try.f5.body).bind (codeAt [1, 1, 0, 0])) = some code ∧ Run X (evT X) 5 0 code [(0, .ro c (.pc (rows.map bRow)) 1), (1, .int .i64 n), (2, .ro c2 (.pi .i64 cuts) 3), (24, .bool false)] [] ⟨.normal, [(0, .ro c (.pc (rows.map bRow)) 1), (1, .int .i64 n), (2, .ro c2 (.pi .i64 cuts) 3), (40, .bool true)], []⟩ := by
  refine ⟨_, rfl, ?_⟩
  by_cases h1 : (20 : Int) < (rows.length : Int)
  · have h1N : 20 < rows.length := by omega
    (refine ⟨0, ?_⟩; simp (maxSteps := 2000000) -implicitDefEqProofs [-getElem?_pos, List.getElem?_cons_zero, List.getElem?_cons_succ, go_sem, eqV, plen, loadV, storeV, h1, h1N])
  have h1N : ¬ 20 < rows.length := by omega
  by_cases h2 : n < 1
  · (refine ⟨0, ?_⟩; simp (maxSteps := 2000000) -implicitDefEqProofs [-getElem?_pos, List.getElem?_cons_zero, List.getElem?_cons_succ, go_sem, eqV, plen, loadV, storeV, h1, h1N, h2])
  by_cases h3 : 300 < n
  · (refine ⟨0, ?_⟩; simp (maxSteps := 2000000) -implicitDefEqProofs [-getElem?_pos, List.getElem?_cons_zero, List.getElem?_cons_succ, go_sem, eqV, plen, loadV, storeV, h1, h1N, h2, h3])
  have h4 : (3000 : Int) < (cuts.length : Int) := by omega
  have h4N : 3000 < cuts.length := by omega
  (refine ⟨0, ?_⟩; simp (maxSteps := 2000000) -implicitDefEqProofs [-getElem?_pos, List.getElem?_cons_zero, List.getElem?_cons_succ, go_sem, eqV, plen, loadV, storeV, h1, h1N, h2, h3, h4, h4N])

set_option maxRecDepth 100000 in
set_option maxHeartbeats 4000000 in
theorem chunk_code (n : Int) (hrc : ∀ r ∈ rows, r.1 = 0 → r.2 = []) : ∃ code, Try.f5.body = some code ∧
    Tells (Rets fun fr H => getF fr 6 = .bool true) X (evT X) 5 0 code [(0, .ro c (.pc (rows.map bRow)) 1), (1, .int .i64 n), (2, .ro c2 (.pi .i64 cuts) 3)] [] := by
  refine ⟨_, rfl, ?_⟩
  have hL := fun H => hlives_ev H
  apply Tells.seq (fr' := [(0, .ro c (.pc (rows.map bRow)) 1), (1, .int .i64 n), (2, .ro c2 (.pi .i64 cuts) 3)]) (H' := [])
  · (refine ⟨0, ?_⟩; simp (maxSteps := 2000000) -implicitDefEqProofs [-getElem?_pos, List.getElem?_cons_zero, List.getElem?_cons_succ, go_sem, eqV, plen, loadV, storeV])
  apply Tells.assoc
  apply Tells.seq (fr' := [(0, .ro c (.pc (rows.map bRow)) 1), (1, .int .i64 n), (2, .ro c2 (.pi .i64 cuts) 3), (24, .bool false)]) (H' := [])
  · (refine ⟨0, ?_⟩; simp (maxSteps := 2000000) -implicitDefEqProofs [-getElem?_pos, List.getElem?_cons_zero, List.getElem?_cons_succ, go_sem, eqV, plen, loadV, storeV, hL, unV])
  apply Tells.seq (fr' := [(0, .ro c (.pc (rows.map bRow)) 1), (1, .int .i64 n), (2, .ro c2 (.pi .i64 cuts) 3), (24, .bool false)]) (H' := [])
  · exact Run.cond (d := false) rfl ⟨0, rfl⟩
  by_cases hg : 20 < rows.length ∨ n < 1 ∨ 300 < n ∨ 3000 < cuts.length
  · apply Tells.assoc
    apply Tells.seq (piece (cu_guard c c2 rows cuts n hg) _ rfl)
    refine Tells.of (o := ⟨.ret, [(6, .bool true)], []⟩) ⟨0, ?_⟩ ⟨rfl, rfl⟩
    simp (maxSteps := 2000000) -implicitDefEqProofs [-getElem?_pos, List.getElem?_cons_zero, List.getElem?_cons_succ, go_sem, eqV, plen, loadV, storeV]
  have h1 : ¬ (20 : Int) < (rows.length : Int) := by omega
  have h1N : ¬ 20 < rows.length := by omega
  have h2 : ¬ n < 1 := by omega
  have h3 : ¬ 300 < n := by omega
  have h4 : ¬ (3000 : Int) < (cuts.length : Int) := by omega
  have h4N : ¬ 3000 < cuts.length := by omega
  apply Tells.assoc
  apply Tells.seq (fr' := [(0, .ro c (.pc (rows.map bRow)) 1), (1, .int .i64 n), (2, .ro c2 (.pi .i64 cuts) 3), (40, .bool false)]) (H' := [])
  · (refine ⟨0, ?_⟩; simp (maxSteps := 2000000) -implicitDefEqProofs [-getElem?_pos, List.getElem?_cons_zero, List.getElem?_cons_succ, go_sem, eqV, plen, loadV, storeV, h1, h1N, h2, h3, h4, h4N])
  apply Tells.seq (fr' := [(0, .ro c (.pc (rows.map bRow)) 1), (1, .int .i64 n), (2, .ro c2 (.pi .i64 cuts) 3), (40, .bool false)]) (H' := [])
  · exact Run.cond (d := false) rfl ⟨0, rfl⟩
  obtain ⟨m, rfl⟩ : ∃ m : Nat, n = (m : Nat) := ⟨n.toNat, by omega⟩
  have hm : 0 < m := by omega
  have hm2 : m ≤ 300 := by omega
  apply Tells.seq (fr' := [(0, .ro c (.pc (rows.map bRow)) 1), (1, .int .i64 (m : Nat)), (2, .ro c2 (.pi .i64 cuts) 3), (7, .sl 0 0 0 0)]) (H' := [some ⟨.pb [], 0, .none, 0, true, false, 0⟩])
  · (refine ⟨0, ?_⟩; simp (maxSteps := 2000000) -implicitDefEqProofs [-getElem?_pos, List.getElem?_cons_zero, List.getElem?_cons_succ, go_sem, eqV, plen, loadV, storeV, assignV, emU])
  apply Tells.seq (fr' := [(0, .ro c (.pc (rows.map bRow)) 1), (1, .int .i64 (m : Nat)), (2, .ro c2 (.pi .i64 cuts) 3), (7, .sl 0 0 0 0), (8, .sl 1 0 0 0)]) (H' := [some ⟨.pb [], 0, .none, 0, true, false, 0⟩, some ⟨.pi .i64 [], 0, .none, 0, true, false, 0⟩])
  · (refine ⟨0, ?_⟩; simp (maxSteps := 2000000) -implicitDefEqProofs [-getElem?_pos, List.getElem?_cons_zero, List.getElem?_cons_succ, go_sem, eqV, plen, loadV, storeV, assignV, emI])
  apply Tells.seq (fr' := [(0, .ro c (.pc (rows.map bRow)) 1), (1, .int .i64 (m : Nat)), (2, .ro c2 (.pi .i64 cuts) 3), (7, .sl 0 0 0 0), (8, .sl 1 0 0 0), (9, .int .u8 0)]) (H' := [some ⟨.pb [], 0, .none, 0, true, false, 0⟩, some ⟨.pi .i64 [], 0, .none, 0, true, false, 0⟩])
  · (refine ⟨0, ?_⟩; simp (maxSteps := 2000000) -implicitDefEqProofs [-getElem?_pos, List.getElem?_cons_zero, List.getElem?_cons_succ, go_sem, eqV, plen, loadV, storeV])
  apply Tells.assoc
  apply Tells.seq (fr' := cuFr c c2 m rows cuts 0 0 0 0 0 0 []) (H' := [some ⟨.pb [], 0, .none, 0, true, false, 0⟩, some ⟨.pi .i64 [], 0, .none, 0, true, false, 0⟩])
  · unfold cuFr
    (refine ⟨0, ?_⟩; simp (maxSteps := 2000000) -implicitDefEqProofs [-getElem?_pos, List.getElem?_cons_zero, List.getElem?_cons_succ, go_sem, eqV, plen, loadV, storeV])
  apply Tells.or (piece (cu_loop c c2 m rows cuts hm hm2 (by omega) hrc ⟨_, _, rfl, ⟨rfl, rfl, rfl, rfl, rfl⟩, rfl, rfl, ⟨rfl, rfl, rfl, rfl, rfl⟩, by simp⟩) _ rfl)
  rintro fr' H ⟨N, g, g2, rfl, ob0, ob1, k0, w0, rfl, k1, w1, hall⟩
  have hbr : (bds rows).length = rows.length := by simp [bds]
  rw [List.take_of_length_le (by omega)] at w0 hall ⊢
  have hSl := stm_len hm (bds rows) 0
  have hSb := stl_le m (bds rows) hall
  have hgood : newBad (m : Nat) (300 : Nat) = false := by
    unfold newBad
    simp only [Bool.or_eq_false_iff, decide_eq_false_iff_not]
    omega
  have hN := new_ev (H := H) hgood
  obtain ⟨sq, hsq⟩ : ∃ sq, sq = stn m (bds rows) 0 := ⟨_, rfl⟩
  rw [← hsq]
  obtain ⟨rd, hrd⟩ : ∃ rd, rd = rdBx { m := m, lim := 300 } (.ro 0 .pn 0) (.ro 0 .pn 0) 0 := ⟨_, rfl⟩
  have hH1 := at_lt k1
  rw [← hrd] at hN
  have hk0 : (H ++ [some rd])[0]? = some (some ob0) := at_cat k0
  obtain ⟨obC, l, hl, wC, hC⟩ := chunks_ev (t := 3) (c1 := c2) (cuts := cuts) hk0 w0 (by omega) (by omega)
  obtain ⟨chs, hchs⟩ : ∃ chs, chs = chk (stm m (bds rows) 0) cuts := ⟨_, rfl⟩
  rw [← hchs] at hl hC
  simp only [Int.cast_ofNat_Int] at hN
  have hlv : live (H ++ [some rd]) H.length 0 = some rd := by rw [hrd]; simp [live, rdBx]
  have hnil : isNil X (H ++ [some rd]) 34 (.ptr H.length 0 0 0) = some false := by
    unfold isNil
    rw [und34]
    simp only [hlv]
  apply Tells.seq (fr' := [(0, .ro c (.pc (rows.map bRow)) 1), (2, .ro c2 (.pi .i64 cuts) 3), (7, .sl 0 0 (stm m (bds rows) 0).length g), (8, .sl 1 0 rows.length g2), (9, .int .u8 (sq : Nat)), (14, .ptr H.length 0 0 0), (15, .int .i64 0)]) (H' := H ++ [some rd])
  · unfold cuFr
    generalize (stm m (bds rows) 0).length = M at *
    generalize rows.length = NR at *
    (refine ⟨0, ?_⟩; simp (maxSteps := 2000000) -implicitDefEqProofs [-getElem?_pos, List.getElem?_cons_zero, List.getElem?_cons_succ, go_sem, eqV, plen, loadV, storeV, hN, assignV])
  apply Tells.assoc
  apply Tells.seq (fr' := [(0, .ro c (.pc (rows.map bRow)) 1), (2, .ro c2 (.pi .i64 cuts) 3), (7, .sl 0 0 (stm m (bds rows) 0).length g), (8, .sl 1 0 rows.length g2), (9, .int .u8 (sq : Nat)), (14, .ptr H.length 0 0 0), (85, .bool false)]) (H' := H ++ [some rd])
  · generalize (stm m (bds rows) 0).length = M at *
    generalize rows.length = NR at *
    have hg0 : rd.g = 0 := by rw [hrd]; rfl
    have hat : (H ++ [some rd])[List.length H]? = some (some rd) := by simp
    (refine ⟨0, ?_⟩; simp (maxSteps := 2000000) -implicitDefEqProofs [-getElem?_pos, List.getElem?_cons_zero, List.getElem?_cons_succ, go_sem, eqV, plen, loadV, storeV, eqV, hat, hg0, isNil, nilFor])
  apply Tells.seq (fr' := [(0, .ro c (.pc (rows.map bRow)) 1), (2, .ro c2 (.pi .i64 cuts) 3), (7, .sl 0 0 (stm m (bds rows) 0).length g), (8, .sl 1 0 rows.length g2), (9, .int .u8 (sq : Nat)), (14, .ptr H.length 0 0 0), (85, .bool false)]) (H' := H ++ [some rd])
  · exact Run.cond (d := false) rfl ⟨0, rfl⟩
  apply Tells.seq (fr' := [(0, .ro c (.pc (rows.map bRow)) 1), (2, .ro c2 (.pi .i64 cuts) 3), (7, .sl 0 0 (stm m (bds rows) 0).length g), (8, .sl 1 0 rows.length g2), (9, .int .u8 (sq : Nat)), (14, .ptr H.length 0 0 0), (16, .int .i64 0), (17, .int .i64 0)]) (H' := H ++ [some rd])
  · generalize (stm m (bds rows) 0).length = M at *
    generalize rows.length = NR at *
    (refine ⟨0, ?_⟩; simp (maxSteps := 2000000) -implicitDefEqProofs [-getElem?_pos, List.getElem?_cons_zero, List.getElem?_cons_succ, go_sem, eqV, plen, loadV, storeV])
  obtain ⟨H2, hH2⟩ : ∃ H2, H2 = upd (H ++ [some rd]) 0 none ++ [some obC] := ⟨_, rfl⟩
  obtain ⟨oC, hoC⟩ : ∃ oC, oC = (H ++ [some rd]).length := ⟨_, rfl⟩
  rw [← hH2, ← hoC] at hC
  have hoC2 : oC = H.length + 1 := by rw [hoC]; simp
  apply Tells.seq (fr' := [(0, .ro c (.pc (rows.map bRow)) 1), (8, .sl 1 0 rows.length g2), (9, .int .u8 (sq : Nat)), (14, .ptr H.length 0 0 0), (16, .int .i64 0), (17, .int .i64 0), (18, .sl oC 0 chs.length 0)]) (H' := H2)
  · generalize (stm m (bds rows) 0).length = M at *
    generalize rows.length = NR at *
    generalize chs.length = NC at *
    (refine ⟨0, ?_⟩; simp (maxSteps := 2000000) -implicitDefEqProofs [-getElem?_pos, List.getElem?_cons_zero, List.getElem?_cons_succ, go_sem, eqV, plen, loadV, storeV, hC, assignV])
  apply Tells.assoc
  apply Tells.seq (fr' := cvFr c rows g2 sq H.length 0 0 oC chs.length 0 []) (H' := H2)
  · unfold cvFr
    generalize rows.length = NR at *
    generalize chs.length = NC at *
    (refine ⟨0, ?_⟩; simp (maxSteps := 2000000) -implicitDefEqProofs [-getElem?_pos, List.getElem?_cons_zero, List.getElem?_cons_succ, go_sem, eqV, plen, loadV, storeV])
  have hk1 : H2[1]? = some (some ob1) := by
    rw [hH2]; exact at_cat (at_ne (at_cat k1) (by omega))
  have hkC : H2[oC]? = some (some obC) := by
    rw [hH2, hoC]
    have : (upd (H ++ [some rd]) 0 none).length = (H ++ [some rd]).length := by simp [upd]
    rw [← this]; simp
  have hkr : H2[H.length]? = some (some (rdBx { m := m, lim := 300 } (.ro 0 .pn 0) (.ro 0 .pn 0) 0)) := by
    rw [hH2, ← hrd]; exact at_cat (at_ne (by simp) (by omega))
  have hfl : chs.flatten = stm m (bds rows) 0 := by rw [hchs, chk_flat]
  have hcl : chs.length ≤ 3001 := by
    rw [hchs]
    have := chk_len (stm m (bds rows) 0) cuts
    omega
  have hcp : 0 < chs.length := by rw [hchs]; exact chk_pos _ _
  have hr3 : ∀ r ∈ rows, r.2.length ≤ 300 := fun r hr => hall r.2 (List.mem_map.2 ⟨r, hr, rfl⟩)
  have hI0 : CvI m rows sq H.length oC chs g2 0 0 0 { m := m, lim := 300 } H2 := by
    refine ⟨⟨ob1, hk1, w1⟩, ⟨obC, l, hkC, hl, wC⟩, ⟨none, none, ⟨⟨_, _, 0, .inl rfl, hkr, ⟨0, .inl rfl, rfl, rfl⟩, ⟨0, .inl rfl, rfl, rfl⟩⟩, fun a c h => (by cases h), fun _ => rfl⟩, by simp [rdπ]; omega, by simp [rdπ]; omega⟩, ?_, by omega, by simp [hfl, hSl], .inl rfl⟩
    refine ⟨rfl, rfl, rfl, (by show 0 < 256; omega), ?_⟩
    rw [List.drop_zero, List.drop_zero, hfl]
    cases hb : bds rows with
    | nil => exact ⟨by simp [stm], rfl, by rw [hsq, hb]; rfl⟩
    | cons cur r => exact ⟨cur, rfl, by simp [stm], by rw [hsq, hb]; rfl⟩
  apply Tells.andThen (P := fun fr' H3 => ∃ told at' s, fr' = cvFr c rows g2 sq H.length told at' oC chs.length chs.length [(92, .bool false)] ∧ CvI m rows sq H.length oC chs g2 told at' chs.length s H3)
  · refine Tells.block (P := fun fr' H3 => ∃ told at' s, fr' = cvFr c rows g2 sq H.length told at' oC chs.length chs.length [(92, .bool false)] ∧ CvI m rows sq H.length oC chs g2 told at' chs.length s H3) ?_
    refine Tells.loopP (fun k fr' H3 => ∃ i told at' s, k = chs.length - i ∧ i ≤ chs.length ∧ fr' = cvFr c rows g2 sq H.length told at' oC chs.length i [] ∧ CvI m rows sq H.length oC chs g2 told at' i s H3) ?_ (k := chs.length) ⟨0, 0, 0, _, rfl, by omega, rfl, hI0⟩
    rintro k fr' H3 ⟨i, told, at', s, rfl, hi, rfl, hI⟩
    obtain ⟨obC', l', hkC', hl', wC'⟩ := hI.ch
    have hll' := chL_len hl'
    have hgC := wC'.g
    apply Tells.assoc
    by_cases hin : i = chs.length
    · subst hin
      refine Tells.of (o := ⟨.exit 2, cvFr c rows g2 sq H.length told at' oC chs.length chs.length [(92, .bool false)], H3⟩) ⟨0, ?_⟩ (.inr ⟨by simp, rfl, told, at', s, rfl, hI⟩)
      unfold cvFr
      clear hI hI0 hcp
      generalize rows.length = NR at *
      generalize chs.length = NC at *
      simp (maxSteps := 2000000) -implicitDefEqProofs [-getElem?_pos, List.getElem?_cons_zero, List.getElem?_cons_succ, go_sem, eqV, plen, loadV, storeV, hkC', hgC]
    · have hiI : (i : Int) < (chs.length : Int) := by omega
      have hiN : i < chs.length := by omega
      apply Tells.seq (fr' := cvFr c rows g2 sq H.length told at' oC chs.length i [(92, .bool true)]) (H' := H3)
      · unfold cvFr
        clear hI hI0 hcp
        generalize rows.length = NR at *
        generalize chs.length = NC at *
        (refine ⟨0, ?_⟩; simp (maxSteps := 2000000) -implicitDefEqProofs [-getElem?_pos, List.getElem?_cons_zero, List.getElem?_cons_succ, go_sem, eqV, plen, loadV, storeV, hkC', hgC, hiI, hiN])
      apply Tells.seq (fr' := cvFr c rows g2 sq H.length told at' oC chs.length i [(92, .bool true)]) (H' := H3)
      · exact Run.cond (d := true) rfl ⟨0, rfl⟩
      obtain ⟨told2, at2, s2, H4, tl, hI2, hr⟩ := cv_round c m rows g2 sq told at' i hm hm2 (by omega) hrc hr3 (by omega) hiN hI
      have htl : tl = tl := rfl
      apply Tells.andThen (piece hr _ rfl)
      rintro fr' H5 ⟨rfl, rfl⟩
      have wi : IntKind.i64.wrap ((i : Int) + 1) = ((i + 1 : Nat) : Int) := by rw [wrap_i64 (by omega) (by omega)]; omega
      refine Tells.of (o := ⟨.normal, cvFr c rows g2 sq H.length told2 at2 oC chs.length (i + 1) [], H5⟩) ⟨0, ?_⟩ (.inl ⟨rfl, chs.length - (i + 1), by omega, i + 1, told2, at2, s2, rfl, by omega, rfl, hI2⟩)
      unfold cvFr
      clear hI hI2 hI0 hcp hr
      generalize rows.length = NR at *
      generalize chs.length = NC at *
      simp (maxSteps := 2000000) -implicitDefEqProofs [-getElem?_pos, List.getElem?_cons_zero, List.getElem?_cons_succ, go_sem, eqV, plen, loadV, storeV, wi]
  rintro fr' H3 ⟨told, at', s, rfl, hI⟩
  obtain ⟨_, _, ⟨oa, oc, hR, _, _⟩, hcin, htl, had, hstp⟩ := hI
  have hstp2 : ∀ b r, (bds rows).drop told = b :: r → stl m r < ((chs.drop chs.length).flatten).length := by
    rcases hstp with h | h
    · omega
    · exact h
  rw [List.drop_length] at hstp2 hcin
  have htold : told = rows.length := by
    by_cases h : told < (bds rows).length
    · have := hstp2 _ _ (List.drop_eq_getElem_cons h)
      simp at this
    · omega
  have hdn : (bds rows).drop told = [] := List.drop_of_length_le (by omega)
  rw [hdn] at hcin
  obtain ⟨hst, hem, hel, hnx, hc1, hc2, hc3⟩ := hcin
  have hrest : s.rest = [] := by simpa using hc1
  obtain ⟨H4, hh, hR2, _⟩ := held_ev hR (by omega) (by rw [hrest, hc2]; simp)
  have hhl : hlR s = 0 := by unfold hlR; rw [if_neg (by simp [hst]), hrest, hc2]; rfl
  rw [hhl] at hh
  obtain ⟨H5, hn, hR3, _⟩ := next_ev hR2 (by omega)
  rw [hc3] at hn
  refine Tells.of (o := ⟨.ret, [(6, .bool true)], H5⟩) ⟨0, ?_⟩ ⟨rfl, rfl⟩
  rw [htold]
  unfold cvFr
  clear hI0 hcp had htl hstp hstp2 hdn
  generalize chs.length = NC at *
  simp only [Int.natCast_zero] at hh
  simp (maxSteps := 2000000) -implicitDefEqProofs [-getElem?_pos, List.getElem?_cons_zero, List.getElem?_cons_succ, go_sem, eqV, plen, loadV, storeV, hh, hn]

end

end Go.Proofs.Ytconnpileacfeaa
