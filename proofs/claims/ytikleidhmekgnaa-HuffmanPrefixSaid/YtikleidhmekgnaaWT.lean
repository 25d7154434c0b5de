/- Walks: what is told of reader's function. -/
import Derived.Test.YtikleidhmekgnaaWS
import Derived.Test.YtikleidhmekgnaaWJ
namespace Go.Proofs.Ytikleidhmekgnaa
open Go.AM
set_option linter.unusedSimpArgs false
set_option linter.unusedVariables false

def cap6 (d : Nat) : List AV := [.ptr d 0 0 0, .ptr (d + 1) 0 0 0, .ptr (d + 2) 0 0 0, .ptr (d + 3) 0 0 0, .ptr (d + 4) 0 0 0, .ptr (d + 5) 0 0 0]

section
variable {c : Nat} {b : List UInt8} {m : Int} {n f l : List Int} {t tn : Nat} {pre : AM.Heap}

set_option maxRecDepth 100000 in
theorem next_wrap (a a2 : Int) (v : Int × Int × Int) (ht : t = 0 ∨ t = 2) (htn : tn = 0 ∨ tn = 2) :
    wrap (pre ++ nH c b a m n f l pre.length t 2 tn) (piL pre.length (presL l).length) ([⟨[], []⟩, ⟨[], []⟩, ⟨[], []⟩, ⟨[], []⟩, ⟨[], []⟩, ⟨[], []⟩] ++ [⟨[], tagsObjs ((piL pre.length (presL l).length).map (obAt (pre ++ nH c b a m n f l pre.length t 2 tn)))⟩]) (t3 v) (nH c b a2 m n f l 0 7 7 7) =
      some (t3 v, pre ++ nH c b a2 m n f l pre.length 2 2 2) := by
  have hpl : (piL pre.length (presL l).length).length = 6 + (presL l).length := by rw [piL_eq]; simp
  have hob : (piL pre.length (presL l).length).map (obAt (pre ++ nH c b a m n f l pre.length t 2 tn)) = nH c b a m n f l pre.length t 2 tn := by
    rw [piL_eq, List.map_map]
    refine List.ext_getElem? fun j => ?_
    by_cases hj : j < 6 + (presL l).length
    · rw [List.getElem?_map, List.getElem?_range hj]
      simp only [Option.map_some, Function.comp_apply, obAt, nH_at]
      rw [List.getElem?_eq_getElem (by rw [nH_len]; exact hj)]
      rfl
    · rw [List.getElem?_eq_none (by simp; omega), List.getElem?_eq_none (by rw [nH_len]; omega)]
  have hjt : joinTags (tagsObjs (nH c b a m n f l pre.length t 2 tn)) = some 2 := by
    rw [joinTags_two _ fun u hu => ?_, if_pos (nH_tag_b _ _)]
    rcases nH_tags _ _ u hu with rfl | rfl | rfl
    · exact ht
    · exact .inr rfl
    · exact htn
  rw [hob]
  have hb7 : backTag ([⟨[], []⟩, ⟨[], []⟩, ⟨[], []⟩, ⟨[], []⟩, ⟨[], []⟩, ⟨[], []⟩] ++ [⟨[], tagsObjs (nH c b a m n f l pre.length t 2 tn)⟩]) 7 = some 2 := by
    show joinTags (tagsObjs (nH c b a m n f l pre.length t 2 tn)) = some 2
    exact hjt
  have hg7 : goneOf ([⟨[], []⟩, ⟨[], []⟩, ⟨[], []⟩, ⟨[], []⟩, ⟨[], []⟩, ⟨[], []⟩] ++ [⟨[], tagsObjs (nH c b a m n f l pre.length t 2 tn)⟩]) 7 = [] := rfl
  have hT7 : backT ([⟨[], []⟩, ⟨[], []⟩, ⟨[], []⟩, ⟨[], []⟩, ⟨[], []⟩, ⟨[], []⟩] ++ [⟨[], tagsObjs (nH c b a m n f l pre.length t 2 tn)⟩]) 7 = 2 := by unfold backT; rw [hb7]; rfl
  have hg0 : goneOf ([⟨[], []⟩, ⟨[], []⟩, ⟨[], []⟩, ⟨[], []⟩, ⟨[], []⟩, ⟨[], []⟩] ++ [⟨[], tagsObjs (nH c b a m n f l pre.length t 2 tn)⟩]) 0 = [] := rfl
  generalize ([⟨[], []⟩, ⟨[], []⟩, ⟨[], []⟩, ⟨[], []⟩, ⟨[], []⟩, ⟨[], []⟩] ++ [⟨[], tagsObjs (nH c b a m n f l pre.length t 2 tn)⟩] : List Lent) = lents at *
  have hids : ids (t3 v) = [] := rfl
  have htg : tags (t3 v) = [] := rfl
  have hK := nx_back (c := c) (b := b) (a := a2) (m := m) (n := n) (f := f) (l := l) 7
  unfold wrap
  rw [hids, List.append_nil, hpl, htg]
  generalize reach (nH c b a2 m n f l 0 7 7 7) reachFuel (List.range (6 + (presL l).length)) [] = K at hK ⊢
  have hfil : K.filter (fun o => decide (6 + (presL l).length ≤ o)) = [] := by
    rw [List.filter_eq_nil_iff]
    intro o ho
    have := hK o ho
    simp; omega
  simp only [hfil]
  have hr2 : (List.range (6 + (presL l).length)).map (obAt (nH c b a2 m n f l 0 7 7 7)) = nH c b a2 m n f l 0 7 7 7 := by
    refine List.ext_getElem? fun j => ?_
    by_cases hj : j < 6 + (presL l).length
    · rw [List.getElem?_map, List.getElem?_range hj]
      simp only [Option.map_some, obAt]
      rw [List.getElem?_eq_getElem (by rw [nH_len]; exact hj)]
      rfl
    · rw [List.getElem?_eq_none (by simp; omega), List.getElem?_eq_none (by rw [nH_len]; omega)]
  rw [hr2]
  have hu7 : ∀ u ∈ tagsObjs (nH c b a2 m n f l 0 7 7 7), u = 7 := fun u hu => by rcases nH_tags _ _ u hu with h | h | h <;> exact h
  have hpi : ∀ i, i < 6 + (presL l).length → (piL pre.length (presL l).length)[i]? = some (pre.length + i) := by
    intro i hi
    rw [piL_eq, List.getElem?_map, List.getElem?_range hi]; rfl
  have hgen : ∀ i, i < 6 + (presL l).length → genBack (pre ++ nH c b a m n f l pre.length t 2 tn) (piL pre.length (presL l).length) i 0 = 0 := by
    intro i hi
    obtain ⟨ob, h1, h2⟩ := nH_live (c := c) (b := b) (a := a) (m := m) (n := n) (f := f) (t := t) (tb := 2) (tn := tn) (pre := pre) hi
    unfold genBack
    rw [hpi i hi]
    simp [obAt, h1, h2]
  have hlen : (pre ++ nH c b a m n f l pre.length t 2 tn).length = pre.length + (6 + (presL l).length) := by rw [List.length_append, nH_len]
  have hρ : ∀ k, k < (presL l).length → backN (pre ++ nH c b a m n f l pre.length t 2 tn) (piL pre.length (presL l).length) [] (nH c b a2 m n f l 0 7 7 7) (0 + 6 + k) 0 = some (pre.length + 6 + k, 0) := by
    intro k hk
    rw [show 0 + 6 + k = 6 + k by omega]
    unfold backN live
    rw [nH_row _ hk]
    simp only [pRow, if_true]
    rw [hpl, if_pos (by omega), hpi _ (by omega), Option.map_some, hgen _ (by omega)]
    rw [show pre.length + (6 + k) = pre.length + 6 + k by omega]
  have hren := nH_ren (c := c) (b := b) (a := a2) (m := m) (n := n) (f := f) (l := l) (t := 7) (tb := 7) (tn := 7) _ (backT lents) 0 pre.length 2 2 2 hρ hT7 hT7 hT7
  generalize hρd : backN (pre ++ nH c b a m n f l pre.length t 2 tn) (piL pre.length (presL l).length) [] (nH c b a2 m n f l 0 7 7 7) = ρ at *
  have hF : ∀ i, 0 ≤ i → i < 0 + (6 + (presL l).length) → ((obAt (nH c b a2 m n f l 0 7 7 7) i).map fun ob => renObj ρ (backT lents) (genBack (pre ++ nH c b a m n f l pre.length t 2 tn) (piL pre.length (presL l).length) i ob.g) ob) = obAt (nH c b a2 m n f l pre.length 2 2 2) i := by
    intro i _ hi
    have e : (obAt (nH c b a2 m n f l 0 7 7 7) i).map (fun ob => renObj ρ (backT lents) (genBack (pre ++ nH c b a m n f l pre.length t 2 tn) (piL pre.length (presL l).length) i ob.g) ob) = (obAt (nH c b a2 m n f l 0 7 7 7) i).map (renObj ρ (backT lents) 0) := by
      cases ho : obAt (nH c b a2 m n f l 0 7 7 7) i with
      | none => rfl
      | some ob =>
        have := nH_g0 _ _ _ ob ho
        simp only [Option.map_some, this, hgen i (by omega)]
    rw [e, ← hren]
    unfold obAt
    rw [List.getElem?_map]
    cases (nH c b a2 m n f l 0 7 7 7)[i]? <;> rfl
  have hput : putBack ρ (backT lents) (pre ++ nH c b a m n f l pre.length t 2 tn) (piL pre.length (presL l).length) (nH c b a2 m n f l 0 7 7 7) 0 (piL pre.length (presL l).length) (pre ++ nH c b a m n f l pre.length t 2 tn) = pre ++ nH c b a2 m n f l pre.length 2 2 2 := by
    have hrg : piL pre.length (presL l).length = List.range' (pre.length + 0) (6 + (presL l).length) := by rw [piL_eq, List.range'_eq_map_range]; rfl
    conv => lhs; arg 7; rw [hrg]
    refine List.ext_getElem? fun x => ?_
    rw [putBack_seq (fun i => obAt (nH c b a2 m n f l pre.length 2 2 2) i) _ 0 _ hF x, hlen]
    by_cases h1 : x < pre.length
    · rw [if_neg (by omega), List.getElem?_append_left h1, List.getElem?_append_left h1]
    · rw [List.getElem?_append_right (by omega), List.getElem?_append_right (by omega)]
      by_cases h2 : x < pre.length + (6 + (presL l).length)
      · rw [if_pos (by omega)]
        unfold obAt
        rw [List.getElem?_eq_getElem (by rw [nH_len]; omega)]
        rfl
      · rw [if_neg (by omega), List.getElem?_eq_none (by rw [nH_len]; omega), List.getElem?_eq_none (by rw [nH_len]; omega)]
  rw [if_pos ?_]
  · have hfm : ([] ++ tagsObjs (nH c b a2 m n f l 0 7 7 7) ++ tagsObjs (List.map (obAt (nH c b a2 m n f l 0 7 7 7)) [])).flatMap (goneOf lents) = [] := by
      rw [List.flatMap_eq_nil_iff]
      intro u hu
      simp only [List.map_nil, tagsObjs, List.append_nil, List.nil_append] at hu
      rw [hu7 u hu, hg7]
    rw [hfm, hput]
    simp [strike, t3, ren, renL]
  · rw [List.all_eq_true]
    intro u hu
    simp only [List.map_nil, tagsObjs, List.append_nil, List.nil_append] at hu
    rw [hu7 u hu, hb7]; rfl

set_option maxRecDepth 100000 in
theorem next_ev (a : Nat) (hm : 0 ≤ m ∧ m ≤ 15) (hl : l.length ≤ 320) (hn : n.length = 16) (hf : f.length = 17) (hnv : ∀ i : Nat, i < 16 → n.getD i 0 = ct l i)
    (hfv : ∀ i : Nat, i < 16 → 0 ≤ f.getD i 0 ∧ f.getD i 0 < 100000000) (hb : b.length ≤ 100000) (ha : a < 9223372036854775808) (ht : t = 0 ∨ t = 2) (htn : tn = 0 ∨ tn = 2) :
    Ev1 X 26 (cap6 pre.length) (pre ++ nH c b (a : Nat) m n f l pre.length t 2 tn) (t3 (pdecL l n f b a m.toNat 1 0).1, pre ++ nH c b ((pdecL l n f b a m.toNat 1 0).2 : Nat) m n f l pre.length 2 2 2) := by
  obtain ⟨code, hbody, hr⟩ := next_code (fun _ _ _ => .none) c 7 (piL pre.length (presL l).length).length b a m n f l hm hl hn hf hnv hfv hb ha
  have hw := next_wrap (c := c) (b := b) (m := m) (n := n) (f := f) (l := l) (t := t) (tn := tn) (pre := pre) (a : Int) (((pdecL l n f b a m.toNat 1 0).2 : Nat) : Int) (pdecL l n f b a m.toNat 1 0).1 ht htn
  have hre : reach (pre ++ nH c b (a : Nat) m n f l pre.length t 2 tn) reachFuel (idsL (cap6 pre.length)) [] = piL pre.length (presL l).length := nx_reach
  have hin := nx_into (c := c) (b := b) (a := (a : Int)) (m := m) (n := n) (f := f) (l := l) (t := t) (tb := 2) (tn := tn) (pre := pre) 7
  have hat := fun k hk => into_at (c := c) (b := b) (a := (a : Int)) (m := m) (n := n) (f := f) (l := l) (t := t) (tb := 2) (tn := tn) (pre := pre) (k := k) hk
  have a0 := hat 0 (by omega)
  have a1 := hat 1 (by omega)
  have a2 := hat 2 (by omega)
  have a3 := hat 3 (by omega)
  have a4 := hat 4 (by omega)
  have a5 := hat 5 (by omega)
  rw [Nat.add_zero] at a0
  unfold nxO at hr
  generalize pdecL l n f b a m.toNat 1 0 = r at *
  refine Ev1.of (l := [.int .i64 r.1.1, .int .i64 r.1.2.1, .int .i64 r.1.2.2]) (out := ⟨.ret, [(6, .int .i64 r.1.1), (7, .int .i64 r.1.2.1), (8, .int .i64 r.1.2.2)], nH c b (r.2 : Nat) m n f l 0 7 7 7⟩) Below.none Try.func26 hbody
    (show lendArgs X 26 (pre ++ nH c b (a : Nat) m n f l pre.length t 2 tn) 0 (cap6 pre.length) = some (cap6 pre.length, [⟨[], []⟩, ⟨[], []⟩, ⟨[], []⟩, ⟨[], []⟩, ⟨[], []⟩, ⟨[], []⟩]) from rfl) ?_ ?_ (.inr rfl) ?_ ?_
  · rfl
  · rw [hre]
    have e : renL (intoN (pre ++ nH c b (a : Nat) m n f l pre.length t 2 tn) (piL pre.length (presL l).length)) (fun t => t) (cap6 pre.length) = cap6 0 := by
      simp only [cap6, renL, ren, a0, a1, a2, a3, a4, a5]
    rw [e]
    have hx := hin
    rw [show ((cap6 pre.length).length + 1) = 7 from rfl, hx]
    exact hr
  · rfl
  · rw [hre]
    exact hw

end

end Go.Proofs.Ytikleidhmekgnaa
