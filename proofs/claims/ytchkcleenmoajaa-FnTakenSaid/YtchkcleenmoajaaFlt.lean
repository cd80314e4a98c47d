
/- Plain facts about float32 words: their order is that of their rungs; the sign of a difference. No program. -/
import Derived.Test.YtchkcleenmoajaaFp
namespace Go.Proofs.Ytchkcleenmoajaa
open Ieee

/-- the magnitude of a rung, in units of the least place -/
def magV (r : Nat) : Nat := if r < 8388608 then r else (8388608 + r % 8388608) * 2 ^ (r / 8388608 - 1)
def negB (x : Nat) : Bool := x / 2147483648 % 2 == 1
def rung (x : Nat) : Nat := x % 2147483648
def key (x : Nat) : Int := if negB x then -(rung x : Int) else (rung x : Int)
/-- the value, in units of the least place -/
def valV (x : Nat) : Int := if negB x then -(magV (rung x) : Int) else (magV (rung x) : Int)

theorem magV_lt {r r' : Nat} (h : r < r') : magV r < magV r' := by
  unfold magV
  by_cases h1 : r < 8388608
  · by_cases h2 : r' < 8388608
    · rw [if_pos h1, if_pos h2]; exact h
    · rw [if_pos h1, if_neg h2]
      have : 1 ≤ 2 ^ (r' / 8388608 - 1) := Nat.two_pow_pos _
      have : (8388608 + r' % 8388608) * 1 ≤ (8388608 + r' % 8388608) * 2 ^ (r' / 8388608 - 1) := Nat.mul_le_mul_left _ this
      omega
  · have h2 : ¬ r' < 8388608 := by omega
    rw [if_neg h1, if_neg h2]
    have hq : r / 8388608 ≤ r' / 8388608 := Nat.div_le_div_right (by omega)
    rcases Nat.lt_or_ge (r / 8388608) (r' / 8388608) with hlt | hge
    · have e : r' / 8388608 - 1 = (r / 8388608 - 1) + 1 + (r' / 8388608 - 1 - (r / 8388608 - 1) - 1) := by omega
      rw [e, Nat.pow_add, Nat.pow_add]
      generalize r' / 8388608 - 1 - (r / 8388608 - 1) - 1 = d
      have hp : 0 < 2 ^ (r / 8388608 - 1) := Nat.two_pow_pos _
      have hd : 1 ≤ 2 ^ d := Nat.two_pow_pos _
      generalize 2 ^ (r / 8388608 - 1) = P at hp ⊢
      generalize 2 ^ d = D at hd ⊢
      have a : (8388608 + r % 8388608) * P < 16777216 * P := Nat.mul_lt_mul_of_pos_right (by omega) hp
      have b : 16777216 * P ≤ (8388608 + r' % 8388608) * (P * 2 ^ 1 * D) := by
        have e1 : 16777216 * P = 8388608 * (P * 2 ^ 1 * 1) := by omega
        rw [e1]
        exact Nat.mul_le_mul (by omega) (Nat.mul_le_mul_left _ hd)
      exact Nat.lt_of_lt_of_le a b
    · have e : r' / 8388608 = r / 8388608 := by omega
      rw [e]
      exact Nat.mul_lt_mul_of_pos_right (by omega) (Nat.two_pow_pos _)
theorem magV_le {r r' : Nat} (h : r ≤ r') : magV r ≤ magV r' := by
  rcases Nat.lt_or_ge r r' with h1 | h1
  · exact Nat.le_of_lt (magV_lt h1)
  · have : r = r' := by omega
    rw [this]; exact Nat.le_refl _
theorem magV_zero : magV 0 = 0 := rfl
theorem magV_lt_iff {r r' : Nat} : magV r < magV r' ↔ r < r' :=
  ⟨fun h => by rcases Nat.lt_or_ge r r' with h1 | h1; exact h1; exact absurd h (Nat.not_lt.2 (magV_le h1)), magV_lt⟩
theorem magV_eq_iff {r r' : Nat} : magV r = magV r' ↔ r = r' := by
  constructor
  · intro h
    rcases Nat.lt_trichotomy r r' with h1 | h1 | h1
    · have := magV_lt h1; omega
    · exact h1
    · have := magV_lt h1; omega
  · intro h; rw [h]
theorem val_lt_iff (x y : Nat) : valV x < valV y ↔ key x < key y := by
  unfold valV key
  have a := @magV_lt_iff (rung x) (rung y)
  have b := @magV_lt_iff (rung y) (rung x)
  have c := @magV_lt_iff 0 (rung y)
  have d := @magV_lt_iff 0 (rung x)
  rw [magV_zero] at c d
  cases negB x <;> cases negB y <;> simp only [Bool.false_eq_true, if_false, if_true] <;> omega
theorem val_eq_iff (x y : Nat) : valV x = valV y ↔ key x = key y := by
  have a := val_lt_iff x y
  have b := val_lt_iff y x
  omega

theorem read_val {x : Nat} (h : finB x = true) : ∃ m p, single.read x = .number (negB x) m p ∧ -149 ≤ p ∧ m <<< (p + 149).toNat = magV (rung x) := by
  simp only [finB, decide_eq_true_eq] at h
  unfold Format.read
  rw [c_sw, c_bin, c_inf]
  have hl : single.leastPlace = -149 := by decide
  unfold magV rung negB
  by_cases h1 : x % 2147483648 < 8388608
  · refine ⟨x % 2147483648, single.leastPlace, by simp [h1], by decide, ?_⟩
    rw [if_pos h1, hl]; simp
  · refine ⟨8388608 + x % 2147483648 % 8388608, single.leastPlace + (x % 2147483648 / 8388608 - 1 : Nat), by simp [h1, h], by omega, ?_⟩
    rw [if_neg h1, Nat.shiftLeft_eq, hl]
    congr 2
    omega

theorem compare_of {a b c d : Int} (h1 : a < b ↔ c < d) (h2 : a = b ↔ c = d) : compare a b = compare c d := by
  unfold compare instOrdInt
  simp only [compareOfLessAndEq, h1, h2]
theorem signed_scale (s : Bool) (m k c : Nat) : signed s m k * (2 ^ c : Nat) = signed s m (k + c) := by
  unfold signed
  have : (m <<< k) * 2 ^ c = m <<< (k + c) := by rw [Nat.shiftLeft_eq, Nat.shiftLeft_eq, Nat.pow_add, Nat.mul_assoc]
  cases s
  · simp only [Bool.false_eq_true, if_false]; rw [← Int.natCast_mul, this]
  · simp only [if_true]; rw [Int.neg_mul, ← Int.natCast_mul, this]
theorem signed_val {x m : Nat} {p : Int} (h : m <<< (p + 149).toNat = magV (rung x)) : signed (negB x) m (p + 149).toNat = valV x := by
  unfold signed valV; rw [h]

theorem ord_fin {x y : Nat} (hx : finB x = true) (hy : finB y = true) : ordB x y = some (compare (key x) (key y)) := by
  obtain ⟨m, i, ex, hi, vx⟩ := read_val hx
  obtain ⟨n, j, ey, hj, vy⟩ := read_val hy
  unfold ordB Format.order
  rw [ex, ey]
  simp only [Datum.order]
  congr 1
  have hp : (0 : Int) < ((2 ^ (min i j + 149).toNat : Nat) : Int) := by have := Nat.two_pow_pos (min i j + 149).toNat; omega
  have sx := signed_scale (negB x) m (i - min i j).toNat (min i j + 149).toNat
  have sy := signed_scale (negB y) n (j - min i j).toNat (min i j + 149).toNat
  rw [show (i - min i j).toNat + (min i j + 149).toNat = (i + 149).toNat by omega, signed_val vx] at sx
  rw [show (j - min i j).toNat + (min i j + 149).toNat = (j + 149).toNat by omega, signed_val vy] at sy
  generalize signed (negB x) m (i - min i j).toNat = a at *
  generalize signed (negB y) n (j - min i j).toNat = b at *
  generalize ((2 ^ (min i j + 149).toNat : Nat) : Int) = K at *
  refine compare_of ?_ ?_
  · rw [← val_lt_iff, ← sx, ← sy]
    exact ⟨fun h => Int.mul_lt_mul_of_pos_right h hp, fun h => Int.lt_of_mul_lt_mul_right h (by omega)⟩
  · rw [← val_eq_iff, ← sx, ← sy]
    exact ⟨fun h => by rw [h], fun h => Int.eq_of_mul_eq_mul_right (by omega) h⟩

theorem ltB_fin {x y : Nat} (hx : finB x = true) (hy : finB y = true) : ltB x y = decide (key x < key y) := by
  unfold ltB; rw [ord_fin hx hy]
  unfold compare instOrdInt
  simp only [compareOfLessAndEq]
  by_cases h : key x < key y
  · simp [h]
  · by_cases h2 : key x = key y <;> simp [h, h2]
theorem gtB_fin {x y : Nat} (hx : finB x = true) (hy : finB y = true) : gtB x y = decide (key y < key x) := by
  unfold gtB; rw [ord_fin hx hy]
  unfold compare instOrdInt
  simp only [compareOfLessAndEq]
  by_cases h : key x < key y
  · simp [h]; omega
  · by_cases h2 : key x = key y
    · simp [h2]
    · simp [h, h2]; omega
theorem eqB_fin {x y : Nat} (hx : finB x = true) (hy : finB y = true) : eqB x y = decide (key x = key y) := by
  unfold eqB; rw [ord_fin hx hy]
  unfold compare instOrdInt
  simp only [compareOfLessAndEq]
  by_cases h : key x < key y
  · simp [h]; omega
  · by_cases h2 : key x = key y <;> simp [h, h2]
theorem key_nn {x : Nat} (h : x < 2147483648) : key x = x := by
  have h0 : x / 2147483648 = 0 := Nat.div_eq_of_lt h
  have h1 : x % 2147483648 = x := Nat.mod_eq_of_lt h
  unfold key negB rung
  rw [h0, h1]
  simp

/-! ### differences -/
theorem word_false (r : Nat) : single.word false r = r := rfl
theorem nearest_nn (m : Nat) (p : Int) : single.nearest false m p ≤ 2139095040 := by
  unfold Format.nearest
  split
  · rw [word_false]; omega
  · simp only []
    rw [word_false]
    exact Nat.le_trans (Nat.min_le_right _ _) (by decide)
theorem cleanB_nn {r : Nat} (h : r ≤ 2139095040) : cleanB r < 2139095040 := by
  unfold cleanB finB
  split
  · rename_i h1
    simp only [Bool.and_eq_true, decide_eq_true_eq] at h1
    omega
  · omega
/-- a difference that is not below nought is, made clean, a finite word without a sign -/
theorem subB_nn {x y : Nat} (hx : finB x = true) (hy : finB y = true) (h : key y ≤ key x) : subB x y < 2139095040 := by
  obtain ⟨m, i, ex, hi, vx⟩ := read_val hx
  obtain ⟨n, j, ey, hj, vy⟩ := read_val hy
  have e : subB x y = match single.sub x y with | some r => cleanB r | none => 0 := rfl
  rw [e]
  clear e
  unfold Format.sub
  rw [ex, ey]
  simp only [Datum.opposite, Datum.sum, Option.map_some, Format.write]
  have hp : (0 : Int) < ((2 ^ (min i j + 149).toNat : Nat) : Int) := by have := Nat.two_pow_pos (min i j + 149).toNat; omega
  have sx := signed_scale (negB x) m (i - min i j).toNat (min i j + 149).toNat
  have sy := signed_scale (negB y) n (j - min i j).toNat (min i j + 149).toNat
  rw [show (i - min i j).toNat + (min i j + 149).toNat = (i + 149).toNat by omega, signed_val vx] at sx
  rw [show (j - min i j).toNat + (min i j + 149).toNat = (j + 149).toNat by omega, signed_val vy] at sy
  have hneg : signed (!negB y) n (j - min i j).toNat = -signed (negB y) n (j - min i j).toNat := by
    unfold signed; cases negB y <;> simp
  rw [hneg]
  generalize signed (negB x) m (i - min i j).toNat = a at *
  generalize signed (negB y) n (j - min i j).toNat = b at *
  generalize ((2 ^ (min i j + 149).toNat : Nat) : Int) = K at *
  have hle : valV y ≤ valV x := by
    have := val_lt_iff x y
    omega
  have hab : b ≤ a := by
    rw [← sx, ← sy] at hle
    exact Int.le_of_mul_le_mul_right hle hp
  have hs : (if a + -b = 0 then (negB x && !negB y) else decide (a + -b < 0)) = true → a + -b = 0 := by
    intro h1
    by_cases h0 : a + -b = 0
    · exact h0
    · rw [if_neg h0] at h1
      have := of_decide_eq_true h1
      omega
  cases hb : (if a + -b = 0 then (negB x && !negB y) else decide (a + -b < 0))
  · exact cleanB_nn (nearest_nn _ _)
  · rw [hs hb]
    simp only [Int.natAbs_zero, Format.nearest, if_true]
    decide
end Go.Proofs.Ytchkcleenmoajaa
