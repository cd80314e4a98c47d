
/- Plain facts about float32 words: comparisons, what is finite, what an operation gives. No program. -/
import Derived.Laws.FloatArith
namespace Go.Proofs.Ytchkcleenmoajaa
open Ieee

/-- finite: neither an infinity nor a NaN -/
def finB (x : Nat) : Bool := decide (x % 2147483648 < 2139095040)
/-- a zero of either sign -/
def zeroB (x : Nat) : Bool := decide (x % 2147483648 = 0)
def nanB (x : Nat) : Bool := decide (2139095040 < x % 2147483648)
def cleanB (x : Nat) : Nat := if finB x && !zeroB x then x else 0
def arB (op : BinOp) (x y : Nat) : Nat := match floatBits op .f32 x y with | some r => cleanB r | none => 0
def addB (x y : Nat) : Nat := arB .add x y
def subB (x y : Nat) : Nat := arB .sub x y
def mulB (x y : Nat) : Nat := arB .mul x y
def ordB (x y : Nat) : Option Ordering := single.order x y
def ltB (x y : Nat) : Bool := ordB x y == some .lt
def leB (x y : Nat) : Bool := ordB x y == some .lt || ordB x y == some .eq
def gtB (x y : Nat) : Bool := ordB x y == some .gt
def geB (x y : Nat) : Bool := ordB x y == some .gt || ordB x y == some .eq
def eqB (x y : Nat) : Bool := ordB x y == some .eq

theorem c_sw : single.signWeight = 2147483648 := by decide
theorem c_bin : single.binade = 8388608 := by decide
theorem c_inf : single.infRung = 2139095040 := by decide

theorem read_fin {x : Nat} (h : finB x = true) : ∃ m p, single.read x = .number (x / 2147483648 % 2 == 1) m p ∧ -149 ≤ p ∧ (m = 0 ↔ x % 2147483648 = 0) := by
  simp only [finB, decide_eq_true_eq] at h
  unfold Format.read
  rw [c_sw, c_bin, c_inf]
  by_cases h1 : x % 2147483648 < 8388608
  · exact ⟨x % 2147483648, single.leastPlace, by simp [h1], by decide, Iff.rfl⟩
  · refine ⟨8388608 + x % 2147483648 % 8388608, single.leastPlace + (x % 2147483648 / 8388608 - 1 : Nat), by simp [h1, h], ?_, by omega⟩
    have : single.leastPlace = -149 := by decide
    omega

theorem read_inf {x : Nat} (h : x % 2147483648 = 2139095040) : single.read x = .infinity (x / 2147483648 % 2 == 1) := by
  unfold Format.read
  rw [c_sw, c_bin, c_inf, h]
  simp

theorem read_nan {x : Nat} (h : nanB x = true) : ∃ f, single.read x = .nan (x / 2147483648 % 2 == 1) f := by
  simp only [nanB, decide_eq_true_eq] at h
  unfold Format.read
  rw [c_sw, c_bin, c_inf]
  refine ⟨x % 2147483648 - 2139095040, ?_⟩
  have h1 : ¬ x % 2147483648 < 8388608 := by omega
  have h2 : ¬ x % 2147483648 < 2139095040 := by omega
  have h3 : ¬ x % 2147483648 = 2139095040 := by omega
  simp [h1, h2, h3]

theorem three (x : Nat) : finB x = true ∨ x % 2147483648 = 2139095040 ∨ nanB x = true := by
  simp only [finB, nanB, decide_eq_true_eq]; omega

theorem ord_nan_left {x : Nat} (h : nanB x = true) (y : Nat) : ordB x y = none := by
  obtain ⟨f, e⟩ := read_nan h
  simp [ordB, Format.order, e, Datum.order]

theorem ord_nan_right {y : Nat} (h : nanB y = true) (x : Nat) : ordB x y = none := by
  obtain ⟨f, e⟩ := read_nan h
  simp only [ordB, Format.order, e]
  cases single.read x <;> simp [Datum.order]

theorem read_zero : single.read 0 = .number false 0 (-149) := by decide

theorem signed_zero (s : Bool) (k : Nat) : signed s 0 k = 0 := by simp [signed]

theorem eqB_zero (x : Nat) : eqB x 0 = zeroB x := by
  unfold eqB ordB Format.order
  rw [read_zero]
  rcases three x with h | h | h
  · obtain ⟨m, p, e, hp, hm⟩ := read_fin h
    rw [e]
    simp only [Datum.order, signed_zero, zeroB]
    by_cases hz : m = 0
    · subst hz
      simp [signed_zero, hm.1 rfl]
    · have hx : ¬ x % 2147483648 = 0 := fun hh => hz (hm.2 hh)
      have hne : signed (x / 2147483648 % 2 == 1) m (p - min p (-149)).toNat ≠ 0 := by
        unfold signed
        have h2 : m <<< (p - min p (-149)).toNat ≠ 0 := by
          rw [Nat.shiftLeft_eq]
          exact Nat.mul_ne_zero hz (Nat.pos_iff_ne_zero.1 (Nat.two_pow_pos _))
        split <;> omega
      simp only [hx, decide_false, beq_eq_false_iff_ne, ne_eq, Option.some.injEq]
      intro hc
      exact hne (Int.compare_eq_eq.1 hc)
  · rw [read_inf h]
    simp only [Datum.order, zeroB, h]
    cases (x / 2147483648 % 2 == 1) <;> decide
  · obtain ⟨f, e⟩ := read_nan h
    rw [e]
    simp only [nanB, decide_eq_true_eq] at h
    simp only [Datum.order, zeroB]
    have : ¬ x % 2147483648 = 0 := by omega
    simp [this]

theorem sub_self_fin {x : Nat} (h : finB x = true) : floatBits .sub .f32 x x = some 0 := by
  obtain ⟨m, p, e, hp, hm⟩ := read_fin h
  show single.sub x x = some 0
  unfold Format.sub
  rw [e]
  simp only [Datum.opposite, Datum.sum, signed]
  cases (x / 2147483648 % 2 == 1) <;> simp [Format.write, Format.nearest, Format.word, Int.add_left_neg, Int.add_right_neg]

theorem sub_self_not {x : Nat} (h : finB x = false) : floatBits .sub .f32 x x = none := by
  show single.sub x x = none
  unfold Format.sub
  rcases three x with h1 | h1 | h1
  · rw [h] at h1; cases h1
  · rw [read_inf h1]
    simp [Datum.opposite, Datum.sum]
  · obtain ⟨f, e⟩ := read_nan h1
    rw [e]
    simp [Datum.sum]

theorem nan_cut (k t : Nat) : nanB ((k % 2) * 2 ^ 31 + 2139095040 + 1 + (t % (2 ^ 23 - 1))) = true := by
  simp only [nanB, decide_eq_true_eq]
  omega

theorem cleanB_zero : cleanB 0 = 0 := by decide
theorem cleanB_clean (x : Nat) : cleanB (cleanB x) = cleanB x := by
  unfold cleanB
  by_cases h : (finB x && !zeroB x) = true
  · simp [h]
  · simp [h]
theorem cleanB_fin (x : Nat) : finB (cleanB x) = true := by
  unfold cleanB
  by_cases h : (finB x && !zeroB x) = true
  · rw [if_pos h]; simp at h; exact h.1
  · rw [if_neg h]; decide
theorem cleanB_lt {x : Nat} (h : x < 4294967296) : cleanB x < 4294967296 := by
  unfold cleanB; split <;> omega
theorem arB_lt (op : BinOp) (x y : Nat) : arB op x y < 4294967296 := by
  unfold arB
  cases h : floatBits op .f32 x y with
  | none => simp
  | some r =>
    have := floatBits_wf h
    simp only [Lit.wf, decide_eq_true_eq] at this
    exact cleanB_lt (by simpa using this)
end Go.Proofs.Ytchkcleenmoajaa
