/- Plain: what two sides do together, as words of bits. -/
import Derived.Test.YtfkbemllgeopfaaDoorX
namespace Go.Proofs.YtfkbemllgeopfaaDoor
open Go.AM
set_option linter.unusedSimpArgs false
set_option linter.unusedVariables false

/-- without what hangs on something that is not there -/
def wo (c on what : BitVec 32) : BitVec 32 := if c &&& on = 0#32 then c &&& ~~~what else c
def dropB (c : BitVec 32) : BitVec 32 := wo (wo (wo c 512#32 29294760#32) 524288#32 3145728#32) 131072#32 65536#32
def bothB (a b : BitVec 32) : BitVec 32 := dropB (a &&& b)

theorem andZ {x y z : BitVec 32} (h : x &&& z = 0#32) : (x &&& y) &&& z = 0#32 := by
  rw [show (x &&& y) &&& z = (x &&& z) &&& y by ac_rfl, h]; simp

theorem wo_sub (c on what : BitVec 32) : wo c on what &&& c = wo c on what := by
  unfold wo
  split
  · rw [show (c &&& ~~~what) &&& c = (c &&& c) &&& ~~~what by ac_rfl, BitVec.and_self]
  · exact BitVec.and_self

theorem sub_trans {x y z : BitVec 32} (h : x &&& y = x) (h2 : y &&& z = y) : x &&& z = x := by
  rw [← h, show (x &&& y) &&& z = x &&& (y &&& z) by ac_rfl, h2]

theorem wo_mono {c d : BitVec 32} (h : d &&& c = d) (on what : BitVec 32) : wo d on what &&& wo c on what = wo d on what := by
  by_cases hc : c &&& on = 0#32
  · have hd : d &&& on = 0#32 := by rw [← h, show (d &&& c) &&& on = (c &&& d) &&& on by ac_rfl]; exact andZ hc
    unfold wo
    rw [if_pos hc, if_pos hd, show (d &&& ~~~what) &&& (c &&& ~~~what) = (d &&& c) &&& (~~~what &&& ~~~what) by ac_rfl, h, BitVec.and_self]
  · refine sub_trans (wo_sub d on what) ?_
    unfold wo
    rw [if_neg hc]
    exact h

def okB (r on what : BitVec 32) : Prop := r &&& on = 0#32 → r &&& what = 0#32

theorem wo_ok (c on what : BitVec 32) (h : what &&& on = 0#32) : okB (wo c on what) on what := by
  unfold okB wo
  split
  · intro _
    rw [show (c &&& ~~~what) &&& what = c &&& (what &&& ~~~what) by ac_rfl, BitVec.and_not_self]
    exact BitVec.and_zero
  · intro h2; contradiction

theorem wo_keeps {c on what : BitVec 32} (on2 what2 : BitVec 32) (h : okB c on what) (h2 : on &&& ~~~what2 = on) : okB (wo c on2 what2) on what := by
  unfold okB wo at *
  split
  · intro h3
    refine andZ (h ?_)
    rw [← h3, show (c &&& ~~~what2) &&& on = c &&& (on &&& ~~~what2) by ac_rfl, h2]
  · exact h

theorem wo_fix {c on what : BitVec 32} (h : okB c on what) : wo c on what = c := by
  unfold okB wo at *
  split
  · rename_i h1
    have h2 := h h1
    have : c &&& ~~~what = (c &&& ~~~what) ||| (c &&& what) := by rw [h2]; simp
    rw [this, ← BitVec.and_or_distrib_left, BitVec.or_comm]
    have : what ||| ~~~what = BitVec.allOnes 32 := by
      apply BitVec.eq_of_getLsbD_eq
      intro i hi
      simp only [BitVec.getLsbD_or, BitVec.getLsbD_not, BitVec.getLsbD_allOnes, hi, decide_true, Bool.true_and]
      cases what.getLsbD i <;> rfl
    rw [this, BitVec.and_allOnes]
  · rfl

theorem dropB_sub (c : BitVec 32) : dropB c &&& c = dropB c := sub_trans (wo_sub _ _ _) (sub_trans (wo_sub _ _ _) (wo_sub _ _ _))
theorem dropB_mono {c d : BitVec 32} (h : d &&& c = d) : dropB d &&& dropB c = dropB d := wo_mono (wo_mono (wo_mono h _ _) _ _) _ _

theorem dropB_fix (c : BitVec 32) : dropB (dropB c) = dropB c := by
  have h1 : okB (dropB c) 512#32 29294760#32 := wo_keeps _ _ (wo_keeps _ _ (wo_ok _ _ _ (by decide)) (by decide)) (by decide)
  have h2 : okB (dropB c) 524288#32 3145728#32 := wo_keeps _ _ (wo_ok _ _ _ (by decide)) (by decide)
  have h3 : okB (dropB c) 131072#32 65536#32 := wo_ok _ _ _ (by decide)
  generalize dropB c = r at *
  unfold dropB
  rw [wo_fix h1, wo_fix h2, wo_fix h3]

theorem sub_andNot {x y : BitVec 32} (h : x &&& y = x) : x &&& ~~~y = 0#32 := by
  rw [← h, show (x &&& y) &&& ~~~y = x &&& (y &&& ~~~y) by ac_rfl, BitVec.and_not_self]
  exact BitVec.and_zero

theorem both_a (a b : BitVec 32) : bothB a b &&& ~~~a = 0#32 :=
  sub_andNot (sub_trans (dropB_sub _) (by rw [show (a &&& b) &&& a = (a &&& a) &&& b by ac_rfl, BitVec.and_self]))
theorem both_b (a b : BitVec 32) : bothB a b &&& ~~~b = 0#32 :=
  sub_andNot (sub_trans (dropB_sub _) (by rw [show (a &&& b) &&& b = a &&& (b &&& b) by ac_rfl, BitVec.and_self]))
theorem both_comm (a b : BitVec 32) : bothB b a = bothB a b := by unfold bothB; rw [BitVec.and_comm]
theorem both_self (a b : BitVec 32) : bothB (bothB a b) (bothB a b) = bothB a b := by
  unfold bothB; rw [BitVec.and_self]; exact dropB_fix _
theorem both_less (a b l : BitVec 32) : bothB (a &&& l) b &&& ~~~bothB a b = 0#32 :=
  sub_andNot (dropB_mono (by rw [show ((a &&& l) &&& b) &&& (a &&& b) = (a &&& a) &&& l &&& (b &&& b) by ac_rfl, BitVec.and_self, BitVec.and_self]))

-- words of bits as numbers

def uB (x : BitVec 32) : AV := .int .u32 (x.toNat : Nat)

theorem bits_uB (x : BitVec 32) : AM.bits .u32 (x.toNat : Int) = x := by
  show BitVec.ofInt 32 (x.toNat : Int) = x
  simp

theorem wrap_uB (x : BitVec 32) : IntKind.u32.wrap (x.toNat : Int) = x.toNat := wrap_u32 (by omega) (by have := x.isLt; omega)

theorem eq_uB (x y : BitVec 32) : ((x.toNat : Int) = y.toNat) ↔ x = y := by
  constructor
  · intro h; exact BitVec.eq_of_toNat_eq (by omega)
  · rintro rfl; rfl

theorem zero_uB (x : BitVec 32) : ((x.toNat : Int) = 0) ↔ x = 0#32 := by
  rw [show (0 : Int) = ((0#32 : BitVec 32).toNat : Int) from rfl]; exact eq_uB x _

@[simp] theorem wrap_and (x y : BitVec 32) : IntKind.u32.wrap ((AM.bits .u32 (x.toNat : Int) &&& AM.bits .u32 (y.toNat : Int)).toNat : Nat) = ((x &&& y).toNat : Nat) := by
  rw [bits_uB, bits_uB]
  exact wrap_uB (x &&& y)

@[simp] theorem wrap_andNot (x y : BitVec 32) : IntKind.u32.wrap ((AM.bits .u32 (x.toNat : Int) &&& ~~~AM.bits .u32 (y.toNat : Int)).toNat : Nat) = ((x &&& ~~~y).toNat : Nat) := by
  rw [bits_uB, bits_uB]
  exact wrap_uB (x &&& ~~~y)

end Go.Proofs.YtfkbemllgeopfaaDoor
