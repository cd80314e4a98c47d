
/- Differences of parts of colours. -/
import Derived.Test.YthlkpopmoodmgaaFltM
import Derived.Test.YthlkpopmoodmgaaFar2
namespace Go.Proofs.Ythlkpopmoodmgaa
open Ieee

theorem near_pos {M : Nat} {p : Int} (hM : 0 < M) (hp : -149 ≤ p) : single.nearest false M p ≠ 0 := by
  have hl : single.leastPlace = -149 := by decide
  have hfb : single.fractionBits = 23 := rfl
  unfold Format.nearest
  rw [if_neg (by omega), hl, hfb, c_bin, c_inf, word_false]
  try simp only []
  generalize M.log2 = L
  obtain ⟨last, hlast⟩ : ∃ last : Int, last = max (p + (L : Int) - (23 : Nat)) (-149) := ⟨_, rfl⟩
  rw [← hlast]
  by_cases h : last = -149
  · have z2 : (last - p).toNat = 0 := by omega
    rw [z2]
    have hk : 1 ≤ Toward.even.cut false (M <<< (p - last).toNat) 0 := by
      unfold Toward.cut
      simp only [Nat.zero_min, Nat.shiftLeft_zero]
      rw [Nat.shiftLeft_eq]
      have : 0 < M * 2 ^ (p - last).toNat := Nat.mul_pos hM (Nat.two_pow_pos _)
      have e : M * 2 ^ (p - last).toNat / 1 = M * 2 ^ (p - last).toNat := Nat.div_one _
      rw [e]
      omega
    generalize Toward.even.cut false (M <<< (p - last).toNat) 0 = kept at hk
    intro h0
    have := Nat.min_eq_zero_iff.1 h0
    omega
  · have h1 : 1 ≤ (last - -149).toNat := by omega
    generalize (last - -149).toNat = u at h1
    intro h0
    have := Nat.min_eq_zero_iff.1 h0
    omega
theorem near_fin {M : Nat} {p : Int} (hM : 0 < M) (hL : p + (M.log2 : Int) ≤ 0) : single.nearest false M p < 2139095040 := by
  have hl : single.leastPlace = -149 := by decide
  have hfb : single.fractionBits = 23 := rfl
  have hlt : M < 2 ^ (M.log2 + 1) := Nat.lt_log2_self
  unfold Format.nearest
  rw [if_neg (by omega), hl, hfb, c_bin, c_inf, word_false]
  try simp only []
  generalize M.log2 = L at hL hlt ⊢
  obtain ⟨last, hlast⟩ : ∃ last : Int, last = max (p + (L : Int) - (23 : Nat)) (-149) := ⟨_, rfl⟩
  rw [← hlast]
  have b0 : last ≤ -23 := by omega
  have b1 : -149 ≤ last := by omega
  have b2 : p + (L : Int) - 23 ≤ last := by omega
  have hu : (last - -149).toNat ≤ 126 := by omega
  have hN : M <<< (p - last).toNat < 2 ^ (L + 1 + (p - last).toNat) := by
    rw [Nat.shiftLeft_eq, Nat.pow_add]
    exact Nat.mul_lt_mul_of_pos_right hlt (Nat.two_pow_pos _)
  have hk : Toward.even.cut false (M <<< (p - last).toNat) (last - p).toNat ≤ 16777217 := by
    unfold Toward.cut
    simp only []
    obtain ⟨d, hd⟩ : ∃ d, d = min (last - p).toNat ((M <<< (p - last).toNat).log2 + 2) := ⟨_, rfl⟩
    rw [← hd]
    have hq : M <<< (p - last).toNat / 1 <<< d ≤ 16777216 := by
      rw [Nat.one_shiftLeft]
      by_cases hdd : d = (last - p).toNat
      · have h3 : M <<< (p - last).toNat < 2 ^ (24 + d) := Nat.lt_of_lt_of_le hN (Nat.pow_le_pow_right (by omega) (by omega))
        rw [Nat.pow_add] at h3
        have := Nat.div_lt_of_lt_mul (show M <<< (p - last).toNat < 2 ^ d * 2 ^ 24 by rw [Nat.mul_comm]; exact h3)
        omega
      · have hd2 : d = (M <<< (p - last).toNat).log2 + 2 := by omega
        have h4 : M <<< (p - last).toNat < 2 ^ ((M <<< (p - last).toNat).log2 + 1) := Nat.lt_log2_self
        have h5 : 2 ^ ((M <<< (p - last).toNat).log2 + 1) ≤ 2 ^ d := Nat.pow_le_pow_right (by omega) (by omega)
        rw [Nat.div_eq_of_lt (by omega)]
        omega
    have h5 : ∀ b : Bool, b.toNat ≤ 1 := by decide
    exact Nat.le_trans (Nat.add_le_add hq (h5 _)) (by decide)
  generalize (last - -149).toNat = u at hu
  generalize Toward.even.cut false (M <<< (p - last).toNat) (last - p).toNat = kept at hk
  clear hN hlast
  omega

theorem cleanB_word0 (s : Bool) : cleanB (single.word s 0) = 0 := by cases s <;> decide
theorem nearest_zero (s : Bool) (p : Int) : single.nearest s 0 p = single.word s 0 := by unfold Format.nearest; simp
/-- the exact difference, in units -/
theorem subB_val {x y : Nat} (hx : finB x = true) (hy : finB y = true) : ∃ (s : Bool) (D p : Int), -149 ≤ p ∧ D * ((2 ^ (p + 149).toNat : Nat) : Int) = valV x - valV y ∧ (0 < D → s = false) ∧ subB x y = cleanB (single.nearest s D.natAbs p) := by
  obtain ⟨m, i, ex, hi, vx⟩ := read_val hx
  obtain ⟨n, j, ey, hj, vy⟩ := read_val hy
  have e : subB x y = match single.sub x y with | some r => cleanB r | none => 0 := rfl
  rw [e]
  clear e
  unfold Format.sub
  rw [ex, ey]
  simp only [Datum.opposite, Datum.sum, Option.map_some, Format.write]
  have sx := signed_scale (negB x) m (i - min i j).toNat (min i j + 149).toNat
  have sy := signed_scale (negB y) n (j - min i j).toNat (min i j + 149).toNat
  rw [show (i - min i j).toNat + (min i j + 149).toNat = (i + 149).toNat by omega, signed_val vx] at sx
  rw [show (j - min i j).toNat + (min i j + 149).toNat = (j + 149).toNat by omega, signed_val vy] at sy
  have hneg : signed (!negB y) n (j - min i j).toNat = -signed (negB y) n (j - min i j).toNat := by
    unfold signed; cases negB y <;> simp
  rw [hneg]
  refine ⟨_, signed (negB x) m (i - min i j).toNat + -signed (negB y) n (j - min i j).toNat, min i j, by omega, ?_, ?_, rfl⟩
  · rw [← sx, ← sy, Int.add_mul, Int.neg_mul]; omega
  · intro hD
    rw [if_neg (by omega)]
    exact decide_eq_false (by omega)
theorem subB_eq {x y : Nat} (hx : finB x = true) (hy : finB y = true) (h : key x = key y) : subB x y = 0 := by
  obtain ⟨s, D, p, hp, hD, _, e⟩ := subB_val hx hy
  have hv := (val_eq_iff x y).2 h
  have hK : ((2 ^ (p + 149).toNat : Nat) : Int) ≠ 0 := by have := Nat.two_pow_pos (p + 149).toNat; omega
  have hD0 : D = 0 := by
    rw [hv, Int.sub_self] at hD
    rcases Int.mul_eq_zero.1 hD with h | h
    · exact h
    · exact absurd h hK
  rw [e, hD0, Int.natAbs_zero, nearest_zero, cleanB_word0]
theorem part_val {x : Nat} (h : partB x = true) : 0 ≤ valV x ∧ valV x ≤ ((2 ^ 149 : Nat) : Int) := by
  obtain ⟨h1, h2⟩ := part_rung h
  have hm := magV_le h1
  have h149 : magV 1065353216 = 2 ^ 149 := by decide +kernel
  rw [h149] at hm
  unfold valV
  cases hn : negB x
  · simp only [Bool.false_eq_true, if_false]
    generalize 2 ^ 149 = B at hm ⊢
    omega
  · rw [h2 hn, magV_zero]
    simp
theorem subB_pos {x y : Nat} (hx : partB x = true) (hy : partB y = true) (h : key y < key x) : 0 < subB x y := by
  obtain ⟨s, D, p, hp, hD, hs, e⟩ := subB_val (part_fin hx) (part_fin hy)
  have hv := (val_lt_iff y x).2 h
  have hKp := Nat.two_pow_pos (p + 149).toNat
  have b1 := part_val hx
  have b2 := part_val hy
  obtain ⟨K, hKe⟩ : ∃ K, K = 2 ^ (p + 149).toNat := ⟨_, rfl⟩
  rw [← hKe] at hKp hD
  have hDp : 0 < D := by
    rcases Int.lt_trichotomy D 0 with h1 | h1 | h1
    · exfalso
      have : D * (K : Int) < 0 := Int.mul_neg_of_neg_of_pos h1 (by omega)
      omega
    · exfalso
      rw [h1, Int.zero_mul] at hD; omega
    · exact h1
  have hDn : ((D.natAbs : Nat) : Int) = D := Int.natAbs_of_nonneg (by omega)
  have hmul : D.natAbs * K ≤ 2 ^ 149 := by
    have h3 : ((D.natAbs * K : Nat) : Int) ≤ ((2 ^ 149 : Nat) : Int) := by
      rw [Int.natCast_mul, hDn, hD]
      have := b1.2
      generalize ((2 ^ 149 : Nat) : Int) = B at *
      omega
    exact Int.ofNat_le.1 h3
  have hM0 : 0 < D.natAbs := by omega
  rw [e, hs hDp]
  generalize D.natAbs = M at *
  have hL : p + (M.log2 : Int) ≤ 0 := by
    have h4 : 2 ^ M.log2 ≤ M := Nat.log2_self_le (by omega)
    have h5 : 2 ^ M.log2 * 2 ^ (p + 149).toNat ≤ 2 ^ 149 := by rw [← hKe]; exact Nat.le_trans (Nat.mul_le_mul_right _ h4) hmul
    rw [← Nat.pow_add] at h5
    have := (Nat.pow_le_pow_iff_right (by omega)).1 h5
    omega
  have n1 := near_pos hM0 hp
  have n2 := near_fin hM0 hL
  generalize single.nearest false M p = r at n1 n2
  unfold cleanB finB zeroB
  have m1 : r % 2147483648 = r := Nat.mod_eq_of_lt (by omega)
  rw [m1]
  have c1 : decide (r < 2139095040) = true := by simpa using n2
  have c2 : decide (r = 0) = false := by simpa using n1
  rw [c1, c2]
  simp
  omega
end Go.Proofs.Ythlkpopmoodmgaa
