
/- Exact results: minus nothing, nothing minus; signs. -/
import Derived.Test.YtchkcleenmoajaaM15
import Derived.Test.YtchkcleenmoajaaGeo
namespace Go.Proofs.Ytchkcleenmoajaa
open Ieee

/-- a number that a word has is its own nearest -/
theorem near_exact {m u v : Nat} (h0 : 0 < m) (hm : m < 16777216) (hu : u = 0 ∨ 8388608 ≤ m) (hf : u * 8388608 + m < 2139095040) (hv : v ≤ u) : single.nearest false (m <<< (u - v)) ((v : Int) - 149) = u * 8388608 + m := by
  have hl : single.leastPlace = -149 := by decide
  have hfb : single.fractionBits = 23 := rfl
  rw [Nat.shiftLeft_eq]
  have hp := Nat.two_pow_pos (u - v)
  have hM : 0 < m * 2 ^ (u - v) := Nat.mul_pos h0 hp
  have hL1 : 2 ^ m.log2 ≤ m := Nat.log2_self_le (by omega)
  have hL2 : m < 2 ^ (m.log2 + 1) := Nat.lt_log2_self
  have hlog : (m * 2 ^ (u - v)).log2 = m.log2 + (u - v) := by
    refine log2_bd ?_ ?_
    · rw [Nat.pow_add]; exact Nat.mul_le_mul_right _ hL1
    · rw [show m.log2 + (u - v) + 1 = (m.log2 + 1) + (u - v) by omega, Nat.pow_add]; exact Nat.mul_lt_mul_of_pos_right hL2 hp
  have hmL : m.log2 < 24 := (Nat.log2_lt (by omega)).2 hm
  unfold Format.nearest
  rw [if_neg (by omega), hl, hfb, c_bin, c_inf, word_false, hlog]
  try simp only []
  have hlast : max ((v : Int) - 149 + ((m.log2 + (u - v) : Nat) : Int) - (23 : Nat)) (-149) = (u : Int) - 149 := by
    rcases hu with h | h
    · omega
    · have : 23 ≤ m.log2 := (Nat.le_log2 (by omega)).2 h
      omega
  rw [hlast]
  have z1 : ((v : Int) - 149 - ((u : Int) - 149)).toNat = 0 := by omega
  have z2 : ((u : Int) - 149 - ((v : Int) - 149)).toNat = u - v := by omega
  have z3 : ((u : Int) - 149 - -149).toNat = u := by omega
  rw [z1, z2, z3, Nat.shiftLeft_zero]
  have hk : Toward.even.cut false (m * 2 ^ (u - v)) (u - v) = m := by
    unfold Toward.cut
    rw [hlog, Nat.min_eq_left (by omega), Nat.one_shiftLeft]
    try simp only []
    have r0 : m * 2 ^ (u - v) % 2 ^ (u - v) = 0 := Nat.mul_mod_left _ _
    have d0 : m * 2 ^ (u - v) / 2 ^ (u - v) = m := Nat.mul_div_cancel _ hp
    rw [r0, d0]
    have c1 : decide (2 ^ (u - v) < 2 * 0) = false := by simp
    have c2 : (2 ^ (u - v) == 2 * 0) = false := by simp
    rw [c1, c2]
    simp
  rw [hk]
  exact Nat.min_eq_left (Nat.le_of_lt hf)
/-- of this sign and rung, nought without a sign -/
def mk (s : Bool) (r : Nat) : Nat := if r = 0 then 0 else single.word s r
theorem mk_key {s : Bool} {r : Nat} (h : r < 2139095040) : key (mk s r) = (if s then -(r : Int) else (r : Int)) ∧ finB (mk s r) = true := by
  unfold mk
  by_cases h0 : r = 0
  · subst h0
    rw [if_pos rfl]
    cases s <;> exact ⟨by decide, by decide⟩
  · rw [if_neg h0]
    obtain ⟨w1, w2⟩ := word_rung (s := s) h
    refine ⟨by unfold key; rw [w1, w2], ?_⟩
    unfold rung at w1
    unfold finB
    rw [w1]
    simpa using h
theorem neg_sub {y : Nat} (hy : finB y = true) : subB 0 y = mk (!negB y) (rung y) := by
  obtain ⟨m, u, ey, hm, hu, hr⟩ := read_rung hy
  have hf := fin_rung hy
  have e : subB 0 y = match single.sub 0 y with | some r => cleanB r | none => 0 := rfl
  rw [e]
  unfold Format.sub
  rw [read_zero, ey]
  simp only [Datum.opposite, Datum.sum, Option.map_some, Format.write]
  have hmin : min (-149 : Int) ((u : Int) - 149) = -149 := by omega
  rw [hmin]
  have t1 : ((u : Int) - 149 - -149).toNat = u := by omega
  rw [signed_zero, t1, Int.zero_add]
  by_cases h0 : m = 0
  · have hu0 : u = 0 := by rcases hu with h | h <;> omega
    have hr0 : rung y = 0 := by omega
    subst h0 hu0
    have hs : signed (!negB y) 0 0 = 0 := by unfold signed; simp
    rw [hs, hr0]
    simp only [Int.natAbs_zero, near_zero, if_true]
    rw [clean_word (by omega)]
    simp [mk]
  · have hpos : 0 < m <<< u := by rw [Nat.shiftLeft_eq]; exact Nat.mul_pos (by omega) (Nat.two_pow_pos _)
    obtain ⟨M, hM⟩ : ∃ M, M = m <<< u := ⟨_, rfl⟩
    have hsv : ∀ s : Bool, signed s m u = if s then -(M : Int) else (M : Int) := fun s => by unfold signed; rw [← hM]
    rw [← hM] at hpos
    have hab : (signed (!negB y) m u).natAbs = m <<< u := by rw [hsv, ← hM]; cases negB y <;> simp
    have hne : signed (!negB y) m u ≠ 0 := by rw [hsv]; cases negB y <;> simp <;> omega
    have hsg : decide (signed (!negB y) m u < 0) = !negB y := by
      rw [hsv]
      cases negB y
      · simp; omega
      · simp
    rw [if_neg hne, hsg, hab, near_word]
    have hx := near_exact (m := m) (u := u) (v := 0) (by omega) hm hu (by omega) (Nat.zero_le _)
    rw [Nat.sub_zero] at hx
    have e149 : ((0 : Nat) : Int) - 149 = -149 := by omega
    rw [e149] at hx
    rw [hx, hr, clean_word hf]
    rfl

/-- nothing minus y: minus y -/
theorem neg_key {y : Nat} (hy : finB y = true) : key (subB 0 y) = -key y ∧ finB (subB 0 y) = true := by
  rw [neg_sub hy]
  obtain ⟨h1, h2⟩ := mk_key (s := !negB y) (fin_rung hy)
  refine ⟨?_, h2⟩
  rw [h1]
  unfold key
  cases negB y <;> simp
theorem clean_key {y : Nat} (hy : finB y = true) : key (cleanB y) = key y ∧ finB (cleanB y) = true := by
  refine ⟨?_, cleanB_fin y⟩
  unfold cleanB
  rw [hy]
  cases hz : zeroB y
  · rfl
  · simp only [Bool.not_true, Bool.and_false, Bool.false_eq_true, if_false]
    have h0 : rung y = 0 := by unfold zeroB at hz; simpa [rung] using hz
    unfold key
    rw [h0]
    cases negB y <;> simp [negB, rung]
theorem reach_key {x : Nat} (hx : finB x = true) : reachB x = decide ((key x).natAbs ≤ 1166016512) := by
  have f1 : finB 1166016512 = true := by decide
  have f2 : finB 3313500160 = true := by decide
  have k1 : key 1166016512 = 1166016512 := by decide
  have k2 : key 3313500160 = -1166016512 := by decide
  have hge : geB x 3313500160 = decide (-1166016512 ≤ key x) := by
    have h := leB_fin f2 hx
    have e : geB x 3313500160 = leB 3313500160 x := by
      unfold geB leB
      rw [ord_fin hx f2, ord_fin f2 hx]
      rcases Int.lt_trichotomy (key x) (key 3313500160) with h | h | h
      · rw [Int.compare_eq_lt.2 h, Int.compare_eq_gt.2 h]; rfl
      · rw [Int.compare_eq_eq.2 h, Int.compare_eq_eq.2 h.symm]; rfl
      · rw [Int.compare_eq_gt.2 h, Int.compare_eq_lt.2 h]; rfl
    rw [e, h, k2]
  unfold reachB
  rw [hge, leB_fin hx f1, k1, Bool.eq_iff_iff]
  simp only [Bool.and_eq_true, decide_eq_true_eq]
  omega

theorem cleanB_word0' (s : Bool) : cleanB (single.word s 0) = 0 := by cases s <;> decide
/-- one minus a part is a part -/
theorem one_sub {x : Nat} (hx : partB x = true) : partB (subB 1065353216 x) = true := by
  have f1 : finB 1065353216 = true := by decide
  have hf := part_fin hx
  obtain ⟨m, i, ex, hi, vx⟩ := read_val f1
  obtain ⟨n, v, ey, hn, hv, hrx⟩ := read_rung hf
  have e1 : single.read 1065353216 = .number false 8388608 (-23) := by decide
  obtain ⟨r1, r2⟩ := part_rung hx
  have e : subB 1065353216 x = match single.sub 1065353216 x with | some r => cleanB r | none => 0 := rfl
  have key1 : ∀ R, R ≤ 1065353216 → partB (cleanB R) = true := by
    intro R hR
    have hc : cleanB R = R := by
      unfold cleanB finB zeroB
      have hm' : R % 2147483648 = R := Nat.mod_eq_of_lt (by omega)
      rw [hm']
      by_cases h0 : R = 0
      · simp [h0]
      · simp [h0]; omega
    rw [hc]
    have hfR : finB R = true := by unfold finB; simp only [decide_eq_true_eq]; omega
    have f0 : finB 0 = true := by decide
    have hge : geB R 0 = true := by
      have h := leB_fin f0 hfR
      have e' : geB R 0 = leB 0 R := by
        unfold geB leB
        rw [ord_fin hfR f0, ord_fin f0 hfR]
        rcases Int.lt_trichotomy (key R) (key 0) with h | h | h
        · rw [Int.compare_eq_lt.2 h, Int.compare_eq_gt.2 h]; rfl
        · rw [Int.compare_eq_eq.2 h, Int.compare_eq_eq.2 h.symm]; rfl
        · rw [Int.compare_eq_gt.2 h, Int.compare_eq_lt.2 h]; rfl
      rw [e', h, key_nn (show R < 2147483648 by omega), key_nn (show 0 < 2147483648 by omega)]
      simp
    unfold partB
    rw [hge, leB_fin hfR f1, key_nn (show R < 2147483648 by omega), key_nn (show 1065353216 < 2147483648 by omega)]
    simp; omega
  rw [e]
  unfold Format.sub
  rw [e1, ey]
  simp only [Datum.opposite, Datum.sum, Option.map_some, Format.write]
  by_cases hn0 : n = 0
  · subst hn0
    have hs : ∀ k, signed (!negB x) 0 k = 0 := fun k => by unfold signed; simp
    rw [hs, Int.add_zero]
    have hu0 : v = 0 := by rcases hv with h | h <;> omega
    subst hu0
    have : (-23 - min (-23 : Int) (((0 : Nat) : Int) - 149)).toNat = 126 := by omega
    rw [this]
    have hm2 : min (-23 : Int) (((0 : Nat) : Int) - 149) = ((0 : Nat) : Int) - 149 := by omega
    rw [hm2]
    have hsg : signed false 8388608 126 = ((8388608 <<< 126 : Nat) : Int) := rfl
    have hpos : ((8388608 <<< 126 : Nat) : Int) ≠ 0 := by decide
    rw [hsg, if_neg hpos]
    have hlt : decide (((8388608 <<< 126 : Nat) : Int) < 0) = false := by decide
    rw [hlt, Int.natAbs_natCast]
    have hx := near_exact (m := 8388608) (u := 126) (v := 0) (by omega) (by omega) (.inr (by omega)) (by omega) (by omega)
    rw [Nat.sub_zero] at hx
    rw [hx]
    exact key1 _ (by omega)
  · have hs : negB x = false := by
      cases h : negB x
      · rfl
      · have := r2 h; omega
    have hv126 : v ≤ 126 := by omega
    have hmin : min (-23 : Int) ((v : Int) - 149) = (v : Int) - 149 := by omega
    rw [hmin, hs]
    have t1 : (-23 - ((v : Int) - 149)).toNat = 126 - v := by omega
    have t2 : ((v : Int) - 149 - ((v : Int) - 149)).toNat = 0 := by omega
    rw [t1, t2]
    obtain ⟨M, hM⟩ : ∃ M, M = 8388608 <<< (126 - v) := ⟨_, rfl⟩
    have s1 : signed false 8388608 (126 - v) = (M : Int) := by unfold signed; rw [← hM]; rfl
    have s2 : signed (!false) n 0 = -(n : Int) := by unfold signed; simp
    rw [s1, s2]
    have hMn : n ≤ M := by
      rw [hM, Nat.shiftLeft_eq]
      by_cases h126 : v = 126
      · subst h126
        have : n ≤ 8388608 := by omega
        simpa using this
      · have : 2 ^ 1 ≤ 2 ^ (126 - v) := Nat.pow_le_pow_right (by omega) (by omega)
        have := Nat.mul_le_mul_left 8388608 this
        omega
    by_cases hz : (M : Int) + -(n : Int) = 0
    · rw [if_pos hz, hz, Int.natAbs_zero, near_zero, cleanB_word0']
      decide +kernel
    · rw [if_neg hz]
      have hlt : decide ((M : Int) + -(n : Int) < 0) = false := by simp; omega
      rw [hlt]
      have hab : ((M : Int) + -(n : Int)).natAbs = M - n := by omega
      rw [hab]
      have hle := near_le (M := M - n) (m := 8388608) (u := 126) (j := (v : Int) - 126) (by omega) (by omega) (.inr (by omega)) (by omega) (by
        have : (-((v : Int) - 126)).toNat = 126 - v := by omega
        rw [this, ← Nat.shiftLeft_eq, ← hM]
        omega)
      have hp : ((126 : Nat) : Int) - 149 + ((v : Int) - 126) = (v : Int) - 149 := by omega
      rw [hp] at hle
      exact key1 _ (by omega)
end Go.Proofs.Ytchkcleenmoajaa
