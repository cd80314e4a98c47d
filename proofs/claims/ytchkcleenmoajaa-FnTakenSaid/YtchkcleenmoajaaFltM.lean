
/- A part of a colour times sixteen, as a whole number. -/
import Derived.Test.YtchkcleenmoajaaFlt
import Derived.Test.YtchkcleenmoajaaM9
namespace Go.Proofs.Ytchkcleenmoajaa
open Ieee

theorem leB_fin {x y : Nat} (hx : finB x = true) (hy : finB y = true) : leB x y = decide (key x ≤ key y) := by
  unfold leB
  rw [ord_fin hx hy, Bool.eq_iff_iff]
  have := compare_of (a := key x) (b := key y) (c := key x) (d := key y) Iff.rfl Iff.rfl
  cases h : compare (key x) (key y)
  · have := Int.compare_eq_lt.1 h
    simp; omega
  · have := Int.compare_eq_eq.1 h
    simp; omega
  · have := Int.compare_eq_gt.1 h
    simp; omega
theorem part_rung {x : Nat} (h : partB x = true) : rung x ≤ 1065353216 ∧ (negB x = true → rung x = 0) := by
  have hf := part_fin h
  have f1 : finB 1065353216 = true := by decide
  have f0 : finB 0 = true := by decide
  unfold partB at h
  rw [Bool.and_eq_true] at h
  obtain ⟨h0, h1⟩ := h
  rw [leB_fin hf f1, decide_eq_true_eq] at h1
  have e0 : leB 0 x = true := by
    unfold geB at h0
    unfold leB
    rw [ord_fin hf f0] at h0
    rw [ord_fin f0 hf]
    cases h : compare (key x) (key 0)
    · rw [h] at h0; simp at h0
    · have := Int.compare_eq_eq.1 h
      rw [this]; simp
    · have := Int.compare_eq_gt.1 h
      have : compare (key 0) (key x) = .lt := Int.compare_eq_lt.2 this
      rw [this]; simp
  rw [leB_fin f0 hf, decide_eq_true_eq] at e0
  rw [key_nn (show (1065353216 : Nat) < 2147483648 by omega)] at h1
  rw [key_nn (show (0 : Nat) < 2147483648 by omega)] at e0
  unfold key at h1 e0
  cases hn : negB x
  · rw [hn] at h1 e0
    simp only [Bool.false_eq_true, if_false] at h1 e0
    exact ⟨by omega, fun h => by cases h⟩
  · rw [hn] at h1 e0
    simp only [if_true] at h1 e0
    exact ⟨by omega, fun _ => by omega⟩

theorem log2_bd {n k : Nat} (h1 : 2 ^ k ≤ n) (h2 : n < 2 ^ (k + 1)) : n.log2 = k := by
  have h0 : n ≠ 0 := by have := Nat.two_pow_pos k; omega
  have a := (Nat.le_log2 h0).2 h1
  have b := (Nat.log2_lt h0).2 h2
  omega

theorem toInt_small {y : Nat} (h : y ≤ 1098907648) : ∃ k : Nat, k ≤ 16 ∧ floatToIntVal .f32 y .i64 = some (k : Int) := by
  have fin : ∀ k : Nat, k ≤ 16 → (single.read y).toInt .zero = some (k : Int) → ∃ k : Nat, k ≤ 16 ∧ floatToIntVal .f32 y .i64 = some (k : Int) := by
    intro k hk e
    refine ⟨k, hk, ?_⟩
    have e' : (FloatKind.f32.decode y).toInt .zero = some (k : Int) := e
    unfold floatToIntVal
    rw [e']
    have b1 : IntKind.i64.min = -9223372036854775808 := by decide
    have b2 : IntKind.i64.max = 9223372036854775807 := by decide
    simp only
    rw [if_pos ⟨by omega, by omega⟩]
  have hl : single.leastPlace = -149 := by decide
  have hm : y % 2147483648 = y := Nat.mod_eq_of_lt (by omega)
  have hs : (y / 2147483648 % 2 == 1) = false := by
    have : y / 2147483648 = 0 := Nat.div_eq_of_lt (by omega)
    rw [this]; rfl
  by_cases h1 : y < 8388608
  · have e : single.read y = .number false y (-149) := by
      unfold Format.read
      rw [c_sw, c_bin, c_inf, hm, hs, hl]
      simp only [if_pos h1]
    refine fin 0 (by omega) ?_
    rw [e]
    unfold Datum.toInt Datum.integral Toward.cut
    simp only [Bool.toNat_false, Nat.add_zero]
    have hz : y / 1 <<< min 149 (y.log2 + 2) = 0 := by
      refine Nat.div_eq_of_lt ?_
      rw [Nat.one_shiftLeft]
      by_cases hy : y = 0
      · subst hy; exact Nat.two_pow_pos _
      · have h2 : y < 2 ^ (y.log2 + 1) := Nat.lt_log2_self
        refine Nat.lt_of_lt_of_le h2 (Nat.pow_le_pow_right (by omega) ?_)
        have h3 : y.log2 < 23 := (Nat.log2_lt hy).2 (by omega)
        omega
    have hz' : (y <<< (Int.toNat (-149))) / 1 <<< min (Int.toNat (- -149)) ((y <<< (Int.toNat (-149))).log2 + 2) = 0 := by
      simpa using hz
    rw [hz']
    rfl
  · have e : single.read y = .number false (8388608 + y % 8388608) (-149 + (y / 8388608 - 1 : Nat)) := by
      unfold Format.read
      rw [c_sw, c_bin, c_inf, hm, hs, hl]
      simp only [if_neg h1]
      rw [if_pos (by omega)]
    obtain ⟨m, hmd⟩ : ∃ m, m = 8388608 + y % 8388608 := ⟨_, rfl⟩
    obtain ⟨d, hd⟩ : ∃ d, d = 150 - y / 8388608 := ⟨_, rfl⟩
    have hq : y / 8388608 ≤ 131 := by omega
    have hq1 : 1 ≤ y / 8388608 := by omega
    have hp : (-149 : Int) + (y / 8388608 - 1 : Nat) = -(d : Int) := by omega
    have hlog : m.log2 = 23 := log2_bd (by omega) (by omega)
    have hk : m / 1 <<< min d 25 ≤ 16 := by
      rw [Nat.one_shiftLeft]
      by_cases h131 : y / 8388608 = 131
      · have hm0 : m = 8388608 := by omega
        have hd0 : d = 19 := by omega
        rw [hm0, hd0]; decide
      · have hd1 : 20 ≤ min d 25 := by omega
        have h2 : 2 ^ 20 ≤ 2 ^ min d 25 := Nat.pow_le_pow_right (by omega) hd1
        have h3 : m / 2 ^ min d 25 ≤ m / 2 ^ 20 := Nat.div_le_div_left h2 (by decide)
        have h4 : m / 2 ^ 20 ≤ 15 := by omega
        omega
    refine fin (m / 1 <<< min d 25) hk ?_
    rw [e, ← hmd, hp]
    unfold Datum.toInt Datum.integral Toward.cut
    have h0 : (-(d : Int)).toNat = 0 := by omega
    have h5 : (- -(d : Int)).toNat = d := by omega
    simp only [h0, h5, Nat.shiftLeft_zero, hlog, Bool.toNat_false, Nat.add_zero, signed]
    rfl

theorem cut_bd {M L drop : Nat} (hlo : 19 ≤ L + 2) (hd : 19 ≤ drop) (hM : M < 2 ^ 46) (hL : M.log2 = L) : Toward.even.cut false M drop ≤ 134217729 := by
  unfold Toward.cut
  rw [hL]
  simp only []
  have hg : 2 ^ 19 ≤ 1 <<< min drop (L + 2) := by
    rw [Nat.one_shiftLeft]
    exact Nat.pow_le_pow_right (by omega) (by omega)
  generalize 1 <<< min drop (L + 2) = gap at hg ⊢
  have h3 : M / gap ≤ M / 2 ^ 19 := Nat.div_le_div_left hg (by decide)
  have h4 : M / 2 ^ 19 ≤ 134217728 := by omega
  have h5 : ∀ b : Bool, b.toNat ≤ 1 := by decide
  exact Nat.le_trans (Nat.add_le_add (Nat.le_trans h3 h4) (h5 _)) (by decide)
/-- a small number's nearest word -/
theorem near_sub {r : Nat} (hr : r ≠ 0) (h1 : r < 8388608) : single.nearest false (r * 8388608) (-168) ≤ 1098907648 := by
  have hl : single.leastPlace = -149 := by decide
  have hfb : single.fractionBits = 23 := rfl
  have hM : r * 8388608 ≠ 0 := by omega
  have hMb : r * 8388608 < 2 ^ 46 := by omega
  have hlo : 23 ≤ (r * 8388608).log2 := (Nat.le_log2 hM).2 (by omega)
  have hhi : (r * 8388608).log2 < 46 := (Nat.log2_lt hM).2 hMb
  obtain ⟨M, hMe⟩ : ∃ M, M = r * 8388608 := ⟨_, rfl⟩
  rw [← hMe] at hM hMb hlo hhi ⊢
  clear hMe
  unfold Format.nearest
  rw [if_neg hM, hl, hfb, c_bin, c_inf]
  simp only []
  generalize hLg : M.log2 = L at hlo hhi ⊢
  obtain ⟨last, hlast⟩ : ∃ last : Int, last = max (-168 + (L : Int) - (23 : Nat)) (-149) := ⟨_, rfl⟩
  rw [← hlast]
  have b1 : -149 ≤ last := by omega
  have b2 : last ≤ -146 := by omega
  have z : (-168 - last).toNat = 0 := by omega
  rw [z, Nat.shiftLeft_zero]
  have hkept := cut_bd (M := M) (L := L) (drop := (last - -168).toNat) (by omega) (by omega) hMb hLg
  rw [word_false]
  have hu : (last - -149).toNat ≤ 3 := by omega
  refine Nat.le_trans (Nat.min_le_left _ _) ?_
  generalize (last - -149).toNat = u at hu
  generalize Toward.even.cut false M (last - -168).toNat = kept at hkept
  clear hlast
  omega
/-- a normal number times a power of two -/
theorem near_norm {m d : Nat} (h1 : 8388608 ≤ m) (h2 : m < 16777216) (hd : (d + 4) * 8388608 + m ≤ 1098907648) : single.nearest false (m * 8388608) (-149 + (d : Int) + -19) ≤ 1098907648 := by
  have hl : single.leastPlace = -149 := by decide
  have hfb : single.fractionBits = 23 := rfl
  have hM : m * 8388608 ≠ 0 := by omega
  have hlog : (m * 8388608).log2 = 46 := log2_bd (by omega) (by omega)
  have r0 : m * 8388608 % 8388608 = 0 := by omega
  have d0 : m * 8388608 / 8388608 = m := by omega
  obtain ⟨M, hMe⟩ : ∃ M, M = m * 8388608 := ⟨_, rfl⟩
  rw [← hMe] at hM hlog r0 d0 ⊢
  clear hMe
  unfold Format.nearest
  rw [if_neg hM, hl, hfb, c_bin, c_inf, hlog]
  simp only []
  obtain ⟨last, hlast⟩ : ∃ last : Int, last = max (-149 + (d : Int) + -19 + ((46 : Nat) : Int) - (23 : Nat)) (-149) := ⟨_, rfl⟩
  rw [← hlast]
  have b1 : last = (d : Int) - 145 := by omega
  have z : (-149 + (d : Int) + -19 - last).toNat = 0 := by omega
  have z2 : (last - (-149 + (d : Int) + -19)).toNat = 23 := by omega
  have z3 : (last - -149).toNat = d + 4 := by omega
  rw [z, z2, z3, Nat.shiftLeft_zero]
  have hkept : Toward.even.cut false M 23 = m := by
    unfold Toward.cut
    rw [hlog]
    have hg : 1 <<< min 23 (46 + 2) = 8388608 := by decide
    simp only [hg]
    rw [r0, d0]
    simp
  rw [hkept, word_false]
  refine Nat.le_trans (Nat.min_le_left _ _) ?_
  exact hd
/-- times sixteen, of a word that is not below nought -/
theorem times16 {r : Nat} (h : r ≤ 1065353216) (x : Nat) (hx : x % 2147483648 = r) (hs : negB x = false) : ∃ y, floatBits .mul .f32 x 1098907648 = some y ∧ y ≤ 1098907648 := by
  have hl : single.leastPlace = -149 := by decide
  have e16 : single.read 1098907648 = .number false 8388608 (-19) := by decide
  have eb : floatBits .mul .f32 x 1098907648 = single.mul x 1098907648 := rfl
  have hsx : (x / 2147483648 % 2 == 1) = false := hs
  rw [eb]
  unfold Format.mul
  by_cases h1 : r < 8388608
  · have e : single.read x = .number false r (-149) := by
      unfold Format.read
      rw [c_sw, c_bin, c_inf, hx, hsx, hl]
      simp only [if_pos h1]
    rw [e, e16]
    simp only [Datum.product, Option.map_some, Format.write, Bool.xor_false]
    refine ⟨_, rfl, ?_⟩
    by_cases hr : r = 0
    · subst hr; decide
    · exact near_sub hr h1
  · have e : single.read x = .number false (8388608 + r % 8388608) (-149 + (r / 8388608 - 1 : Nat)) := by
      unfold Format.read
      rw [c_sw, c_bin, c_inf, hx, hsx, hl]
      simp only [if_neg h1]
      rw [if_pos (by omega)]
    have b1 : r % 8388608 < 8388608 := Nat.mod_lt _ (by decide)
    have b2 := Nat.div_add_mod r 8388608
    obtain ⟨m, hmd⟩ : ∃ m, m = 8388608 + r % 8388608 := ⟨_, rfl⟩
    obtain ⟨d, hd⟩ : ∃ d, d = r / 8388608 - 1 := ⟨_, rfl⟩
    have b3 : 1 ≤ r / 8388608 := by omega
    have b4 : (d + 4) * 8388608 + m ≤ 1098907648 := by omega
    rw [← hmd, ← hd] at e
    rw [e, e16]
    simp only [Datum.product, Option.map_some, Format.write, Bool.xor_false]
    exact ⟨_, rfl, near_norm (by omega) (by omega) b4⟩

/-- what 'int(x * 16)' gives for a part of a colour -/
def stepB (x : Nat) : Nat := match floatBits .mul .f32 x 1098907648 with
  | some y => match floatToIntVal .f32 y .i64 with
    | some k => k.toNat
    | none => 0
  | none => 0
theorem part_step {x : Nat} (h : partB x = true) : ∃ y, floatBits .mul .f32 x 1098907648 = some y ∧ mulB x 1098907648 = cleanB y ∧ floatToIntVal .f32 y .i64 = some (stepB x : Int) ∧ floatToIntVal .f32 (cleanB y) .i64 = some (stepB x : Int) ∧ stepB x ≤ 16 := by
  obtain ⟨h1, h2⟩ := part_rung h
  have fin : ∀ y, floatBits .mul .f32 x 1098907648 = some y → (∃ k : Nat, k ≤ 16 ∧ floatToIntVal .f32 y .i64 = some (k : Int) ∧ floatToIntVal .f32 (cleanB y) .i64 = some (k : Int)) → ∃ y, floatBits .mul .f32 x 1098907648 = some y ∧ mulB x 1098907648 = cleanB y ∧ floatToIntVal .f32 y .i64 = some (stepB x : Int) ∧ floatToIntVal .f32 (cleanB y) .i64 = some (stepB x : Int) ∧ stepB x ≤ 16 := by
    rintro y hy ⟨k, hk, e1, e2⟩
    have e : stepB x = k := by unfold stepB; rw [hy]; simp only [e1]; omega
    refine ⟨y, hy, by unfold mulB arB; rw [hy], ?_⟩
    rw [e]
    exact ⟨e1, e2, hk⟩
  cases hn : negB x
  · obtain ⟨y, hy, hb⟩ := times16 h1 x rfl hn
    refine fin y hy ?_
    obtain ⟨k, hk, e⟩ := toInt_small hb
    refine ⟨k, hk, e, ?_⟩
    unfold cleanB
    cases hz : (finB y && !zeroB y)
    · have h0 : y = 0 := by
        rw [Bool.and_eq_false_iff] at hz
        rcases hz with h | h
        · unfold finB at h; simp at h; omega
        · unfold zeroB at h; simp at h; omega
      subst h0
      exact e
    · exact e
  · have h0 := h2 hn
    have e : single.read x = .number true 0 (-149) := by
      unfold rung at h0
      have hl : single.leastPlace = -149 := by decide
      have hsx : (x / 2147483648 % 2 == 1) = true := hn
      unfold Format.read
      rw [c_sw, c_bin, c_inf, h0, hsx, hl]
      simp
    refine fin 2147483648 ?_ ⟨0, by omega, by decide +kernel, by decide +kernel⟩
    show single.mul x 1098907648 = _
    have e16 : single.read 1098907648 = .number false 8388608 (-19) := by decide
    unfold Format.mul
    rw [e, e16]
    simp only [Datum.product, Option.map_some, Format.write, Nat.zero_mul]
    decide
end Go.Proofs.Ytchkcleenmoajaa
