
/- Sums by keys: a sum hangs on the keys of its parts alone, is clean, and changes its sign with them. No program. -/
import Derived.Test.YtdjbpbolliphkaaFltZ
namespace Go.Proofs.Ytdjbpbolliphkaa
open Ieee

def mR (r : Nat) : Nat := if r < 8388608 then r else 8388608 + r % 8388608
def uR (r : Nat) : Nat := if r < 8388608 then 0 else r / 8388608 - 1
theorem read_key {x : Nat} (h : finB x = true) : single.read x = .number (negB x) (mR (rung x)) ((uR (rung x) : Int) - 149) := by
  obtain ⟨m, u, e, hm, hu, hr⟩ := read_rung h
  rw [e]
  have h1 : m = mR (rung x) ∧ u = uR (rung x) := by
    unfold mR uR
    rw [← hr]
    split
    · omega
    · omega
  rw [← h1.1, ← h1.2]
/-- the part of a sum that a key brings, at the rung e -/
def bring (k : Int) (e : Nat) : Int := if k < 0 then -((mR k.natAbs <<< (uR k.natAbs - e) : Nat) : Int) else ((mR k.natAbs <<< (uR k.natAbs - e) : Nat) : Int)
def lowU (a b : Int) : Nat := min (uR a.natAbs) (uR b.natAbs)
def allS (a b : Int) : Int := bring a (lowU a b) + bring b (lowU a b)
def addK (a b : Int) : Nat := if allS a b = 0 then 0 else cleanB (single.word (decide (allS a b < 0)) (single.nearest false (allS a b).natAbs ((lowU a b : Int) - 149)))
theorem bring_neg (k : Int) (e : Nat) : bring (-k) e = -bring k e := by
  unfold bring
  rw [Int.natAbs_neg]
  rcases Int.lt_trichotomy k 0 with h | h | h
  · rw [if_neg (by omega), if_pos h]; simp
  · subst h
    have h0 : mR 0 = 0 := by decide
    simp [h0]
  · rw [if_pos (by omega), if_neg (by omega)]
theorem key_neg {x : Nat} (h : key x < 0) : negB x = true := by
  unfold key at h
  cases hn : negB x
  · rw [hn] at h; simp at h; omega
  · rfl
theorem key_pos {x : Nat} (h : 0 < key x) : negB x = false := by
  unfold key at h
  cases hn : negB x
  · rfl
  · rw [hn] at h; simp at h; omega
theorem signed_bring (x e : Nat) : signed (negB x) (mR (rung x)) (uR (rung x) - e) = bring (key x) e := by
  unfold bring signed
  rw [← rung_key]
  rcases Int.lt_trichotomy (key x) 0 with h | h | h
  · rw [key_neg h]; simp [h]
  · have h0 : rung x = 0 := by rw [rung_key, h]; rfl
    have h1 : mR 0 = 0 := by decide
    rw [h0, h1, h]
    simp
  · rw [key_pos h]
    have : ¬ key x < 0 := by omega
    simp [this]
theorem add_keys {x y : Nat} (hx : finB x = true) (hy : finB y = true) : addB x y = addK (key x) (key y) := by
  have e : addB x y = match single.add x y with | some r => cleanB r | none => 0 := rfl
  rw [e]
  unfold Format.add
  rw [read_key hx, read_key hy]
  simp only [Datum.sum, Option.map_some, Format.write]
  have hl : lowU (key x) (key y) = min (uR (rung x)) (uR (rung y)) := by unfold lowU; rw [← rung_key, ← rung_key]
  have hmin : min ((uR (rung x) : Int) - 149) ((uR (rung y) : Int) - 149) = (lowU (key x) (key y) : Int) - 149 := by rw [hl]; omega
  rw [hmin]
  have t1 : ((uR (rung x) : Int) - 149 - ((lowU (key x) (key y) : Int) - 149)).toNat = uR (rung x) - lowU (key x) (key y) := by omega
  have t2 : ((uR (rung y) : Int) - 149 - ((lowU (key x) (key y) : Int) - 149)).toNat = uR (rung y) - lowU (key x) (key y) := by omega
  rw [t1, t2, signed_bring, signed_bring]
  have hs : bring (key x) (lowU (key x) (key y)) + bring (key y) (lowU (key x) (key y)) = allS (key x) (key y) := rfl
  rw [hs]
  unfold addK
  by_cases h0 : allS (key x) (key y) = 0
  · rw [if_pos h0, if_pos h0]
    simp only [h0, Int.natAbs_zero, near_zero]
    cases negB x <;> cases negB y <;> simp <;> decide
  · rw [if_neg h0, if_neg h0, near_word]
theorem lowU_neg (a b : Int) : lowU (-a) (-b) = lowU a b := by unfold lowU; rw [Int.natAbs_neg, Int.natAbs_neg]
theorem allS_neg (a b : Int) : allS (-a) (-b) = -allS a b := by unfold allS; rw [lowU_neg, bring_neg, bring_neg]; omega
theorem addK_cw (a b : Int) : cw (addK a b) := by
  unfold addK
  split
  · exact ⟨by decide, by decide⟩
  · exact word_cw (nearest_nn _ _)
theorem addK_fin (a b : Int) : finB (addK a b) = true := (addK_cw a b).1
theorem addK_neg (a b : Int) : key (addK (-a) (-b)) = -key (addK a b) := by
  unfold addK
  rw [allS_neg, lowU_neg]
  by_cases h0 : allS a b = 0
  · rw [if_pos h0, if_pos (by omega)]; decide
  · rw [if_neg h0, if_neg (by omega), Int.natAbs_neg]
    obtain ⟨R, hR⟩ : ∃ R, R = single.nearest false (allS a b).natAbs ((lowU a b : Int) - 149) := ⟨_, rfl⟩
    have hb : R ≤ 2139095040 := by rw [hR]; exact nearest_nn _ _
    rw [← hR]
    by_cases h1 : R = 2139095040
    · rw [h1]
      have a1 : cleanB (single.word true 2139095040) = 0 := by decide
      have a2 : cleanB (single.word false 2139095040) = 0 := by decide
      have : ∀ s : Bool, key (cleanB (single.word s 2139095040)) = 0 := by intro s; cases s <;> decide
      rw [this, this]; rfl
    · have hc : ∀ s : Bool, cleanB (single.word s R) = mk s R := fun s => by rw [clean_word (by omega)]; rfl
      rw [hc, hc, (mk_key (by omega)).1, (mk_key (by omega)).1]
      rcases Int.lt_trichotomy (allS a b) 0 with h | h | h
      · have d1 : decide (-allS a b < 0) = false := by simp; omega
        have d2 : decide (allS a b < 0) = true := by simp [h]
        rw [d1, d2]; simp
      · exact absurd h h0
      · have d1 : decide (-allS a b < 0) = true := by simp; omega
        have d2 : decide (allS a b < 0) = false := by simp; omega
        rw [d1, d2]; simp
theorem addB_cw {x y : Nat} (hx : finB x = true) (hy : finB y = true) : cw (addB x y) := by rw [add_keys hx hy]; exact addK_cw _ _
/-- a number that a word has is its own nearest, at any place below -/
theorem near_exactZ {m u d : Nat} (h0 : 0 < m) (hm : m < 16777216) (hu : u = 0 ∨ 8388608 ≤ m) (hf : u * 8388608 + m < 2139095040) : single.nearest false (m <<< d) ((u : Int) - 149 - (d : Int)) = u * 8388608 + m := by
  have hl : single.leastPlace = -149 := by decide
  have hfb : single.fractionBits = 23 := rfl
  rw [Nat.shiftLeft_eq]
  have hp := Nat.two_pow_pos d
  have hM : 0 < m * 2 ^ d := Nat.mul_pos h0 hp
  have hL1 : 2 ^ m.log2 ≤ m := Nat.log2_self_le (by omega)
  have hL2 : m < 2 ^ (m.log2 + 1) := Nat.lt_log2_self
  have hlog : (m * 2 ^ d).log2 = m.log2 + d := by
    refine log2_bd ?_ ?_
    · rw [Nat.pow_add]; exact Nat.mul_le_mul_right _ hL1
    · rw [show m.log2 + d + 1 = (m.log2 + 1) + d by omega, Nat.pow_add]; exact Nat.mul_lt_mul_of_pos_right hL2 hp
  have hmL : m.log2 < 24 := (Nat.log2_lt (by omega)).2 hm
  unfold Format.nearest
  rw [if_neg (by omega), hl, hfb, c_bin, c_inf, word_false, hlog]
  try simp only []
  have hlast : max ((u : Int) - 149 - (d : Int) + ((m.log2 + d : Nat) : Int) - (23 : Nat)) (-149) = (u : Int) - 149 := by
    rcases hu with h | h
    · omega
    · have : 23 ≤ m.log2 := (Nat.le_log2 (by omega)).2 h
      omega
  rw [hlast]
  have z1 : ((u : Int) - 149 - (d : Int) - ((u : Int) - 149)).toNat = 0 := by omega
  have z2 : ((u : Int) - 149 - ((u : Int) - 149 - (d : Int))).toNat = d := by omega
  have z3 : ((u : Int) - 149 - -149).toNat = u := by omega
  rw [z1, z2, z3, Nat.shiftLeft_zero]
  have hk : Toward.even.cut false (m * 2 ^ d) d = m := by
    unfold Toward.cut
    rw [hlog, Nat.min_eq_left (by omega), Nat.one_shiftLeft]
    try simp only []
    have r0 : m * 2 ^ d % 2 ^ d = 0 := Nat.mul_mod_left _ _
    have d0 : m * 2 ^ d / 2 ^ d = m := Nat.mul_div_cancel _ hp
    rw [r0, d0]
    have c1 : decide (2 ^ d < 2 * 0) = false := by simp
    have c2 : (2 ^ d == 2 * 0) = false := by simp
    rw [c1, c2]
    simp
  rw [hk]
  exact Nat.min_eq_left (Nat.le_of_lt hf)
theorem read_one : single.read 1065353216 = .number false 8388608 (-23) := by decide
/-- times one -/
theorem mul_one_eq {y : Nat} (hy : finB y = true) : mulB y 1065353216 = mk (negB y) (rung y) := by
  obtain ⟨m, u, ey, hm, hu, hr⟩ := read_rung hy
  have hf := fin_rung hy
  have e : mulB y 1065353216 = match single.mul y 1065353216 with | some r => cleanB r | none => 0 := rfl
  rw [e]
  unfold Format.mul
  rw [read_one, ey]
  simp only [Datum.product, Option.map_some, Format.write]
  rw [Bool.xor_false, near_word]
  by_cases h0 : m = 0
  · have hu0 : u = 0 := by rcases hu with h | h <;> omega
    have hr0 : rung y = 0 := by omega
    subst h0 hu0
    rw [hr0, Nat.zero_mul, near_zero, word_false, clean_word (by omega)]
    simp [mk]
  · have hx := near_exactZ (m := m) (u := u) (d := 23) (by omega) hm hu (by omega)
    rw [Nat.shiftLeft_eq] at hx
    have e2 : (2 : Nat) ^ 23 = 8388608 := by decide
    rw [e2] at hx
    have ep : (u : Int) - 149 + -23 = (u : Int) - 149 - ((23 : Nat) : Int) := by omega
    rw [ep, hx, hr, clean_word hf]
    rfl
theorem mul_one_key {y : Nat} (hy : finB y = true) : key (mulB y 1065353216) = key y ∧ finB (mulB y 1065353216) = true := by
  rw [mul_one_eq hy]
  obtain ⟨h1, h2⟩ := mk_key (s := negB y) (fin_rung hy)
  exact ⟨by rw [h1]; rfl, h2⟩
theorem one_sub_zero : subB 1065353216 0 = 1065353216 := by decide +kernel
end Go.Proofs.Ytdjbpbolliphkaa
