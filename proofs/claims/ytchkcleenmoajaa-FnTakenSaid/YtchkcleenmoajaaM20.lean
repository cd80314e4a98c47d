/- FltZ · FltA · FltB -/
import Derived.Test.YtchkcleenmoajaaFltN

/- Clean words: a key has one clean word; sums with nothing. No program. -/
namespace Go.Proofs.Ytchkcleenmoajaa
open Ieee

/-- a finite word without a needless sign or bits above -/
def cw (x : Nat) : Prop := finB x = true ∧ x = mk (negB x) (rung x)
theorem mk_cw {s : Bool} {r : Nat} (h : r < 2139095040) : cw (mk s r) := by
  obtain ⟨h1, h2⟩ := mk_key (s := s) h
  refine ⟨h2, ?_⟩
  unfold mk
  by_cases h0 : r = 0
  · subst h0
    rw [if_pos rfl]
    decide
  · rw [if_neg h0]
    obtain ⟨w1, w2⟩ := word_rung (s := s) h
    rw [w1, w2, if_neg h0]
theorem rung_key (x : Nat) : rung x = (key x).natAbs := by unfold key; cases negB x <;> simp
theorem cw_ext {x y : Nat} (hx : cw x) (hy : cw y) (h : key x = key y) : x = y := by
  have hr : rung x = rung y := by rw [rung_key, rung_key, h]
  rw [hx.2, hy.2, hr]
  by_cases h0 : rung y = 0
  · unfold mk; rw [if_pos h0, if_pos h0]
  · have hs : negB x = negB y := by
      unfold key at h
      rw [hr] at h
      cases h1 : negB x <;> cases h2 : negB y <;> rw [h1, h2] at h <;> simp at h <;> first | rfl | omega
    rw [hs]
theorem cleanB_cw {x : Nat} (hx : finB x = true) (hw : x < 4294967296) : cw (cleanB x) := by
  unfold cleanB
  rw [hx]
  cases hz : zeroB x
  · simp only [Bool.not_false, Bool.and_true, if_true]
    refine ⟨hx, ?_⟩
    have h0 : ¬ rung x = 0 := by unfold zeroB at hz; simpa [rung] using hz
    unfold mk
    rw [if_neg h0]
    unfold Format.word
    rw [c_sw]
    unfold negB rung
    by_cases hb : x < 2147483648
    · have e : x / 2147483648 = 0 := Nat.div_eq_of_lt hb
      rw [e]
      simp
      omega
    · have e : x / 2147483648 = 1 := by omega
      rw [e]
      simp
      omega
  · simp only [Bool.not_true, Bool.and_false, Bool.false_eq_true, if_false]
    exact ⟨by decide, by decide⟩
theorem cw_lt {x : Nat} (h : cw x) : x < 4294967296 := by
  rw [h.2]
  have hf := fin_rung h.1
  unfold mk
  split
  · omega
  · unfold Format.word
    rw [c_sw]
    split <;> omega
theorem word_cw {s : Bool} {R : Nat} (h : R ≤ 2139095040) : cw (cleanB (single.word s R)) := by
  by_cases h1 : R = 2139095040
  · subst h1
    cases s
    · have : cleanB (single.word false 2139095040) = 0 := by decide
      rw [this]; exact ⟨by decide, by decide⟩
    · have : cleanB (single.word true 2139095040) = 0 := by decide
      rw [this]; exact ⟨by decide, by decide⟩
  · rw [clean_word (by omega)]
    exact mk_cw (by omega)
theorem neg_cw {y : Nat} (hy : finB y = true) : cw (subB 0 y) := by
  rw [neg_sub hy]
  exact mk_cw (fin_rung hy)

theorem add_zero {y : Nat} (hy : finB y = true) : addB y 0 = mk (negB y) (rung y) := by
  obtain ⟨m, u, ey, hm, hu, hr⟩ := read_rung hy
  have hf := fin_rung hy
  have e : addB y 0 = match single.add y 0 with | some r => cleanB r | none => 0 := rfl
  rw [e]
  unfold Format.add
  rw [read_zero, ey]
  simp only [Datum.sum, Option.map_some, Format.write]
  have hmin : min ((u : Int) - 149) (-149 : Int) = -149 := by omega
  rw [hmin]
  have t1 : ((u : Int) - 149 - -149).toNat = u := by omega
  rw [signed_zero, t1, Int.add_zero]
  by_cases h0 : m = 0
  · have hu0 : u = 0 := by rcases hu with h | h <;> omega
    have hr0 : rung y = 0 := by omega
    subst h0 hu0
    have hs : signed (negB y) 0 0 = 0 := by unfold signed; simp
    rw [hs, hr0]
    simp only [Int.natAbs_zero, near_zero, if_true]
    rw [clean_word (by omega)]
    simp [mk]
  · have hpos : 0 < m <<< u := by rw [Nat.shiftLeft_eq]; exact Nat.mul_pos (by omega) (Nat.two_pow_pos _)
    obtain ⟨M, hM⟩ : ∃ M, M = m <<< u := ⟨_, rfl⟩
    have hsv : ∀ s : Bool, signed s m u = if s then -(M : Int) else (M : Int) := fun s => by unfold signed; rw [← hM]
    rw [← hM] at hpos
    have hab : (signed (negB y) m u).natAbs = m <<< u := by rw [hsv, ← hM]; cases negB y <;> simp
    have hne : signed (negB y) m u ≠ 0 := by rw [hsv]; cases negB y <;> simp <;> omega
    have hsg : decide (signed (negB y) m u < 0) = negB y := by
      rw [hsv]
      cases negB y
      · simp
      · simp; omega
    rw [if_neg hne, hsg, hab, near_word]
    have hx := near_exact (m := m) (u := u) (v := 0) (by omega) hm hu (by omega) (Nat.zero_le _)
    rw [Nat.sub_zero] at hx
    have e149 : ((0 : Nat) : Int) - 149 = -149 := by omega
    rw [e149] at hx
    rw [hx, hr, clean_word hf]
    rfl
theorem add_key {y : Nat} (hy : finB y = true) : key (addB y 0) = key y ∧ finB (addB y 0) = true ∧ cw (addB y 0) := by
  rw [add_zero hy]
  obtain ⟨h1, h2⟩ := mk_key (s := negB y) (fin_rung hy)
  exact ⟨by rw [h1]; rfl, h2, mk_cw (fin_rung hy)⟩
theorem ge_le {x y : Nat} (hx : finB x = true) (hy : finB y = true) : geB x y = leB y x := by
  unfold geB leB
  rw [ord_fin hx hy, ord_fin hy hx]
  rcases Int.lt_trichotomy (key x) (key y) with h | h | h
  · rw [Int.compare_eq_lt.2 h, Int.compare_eq_gt.2 h]; rfl
  · rw [Int.compare_eq_eq.2 h, Int.compare_eq_eq.2 h.symm]; rfl
  · rw [Int.compare_eq_gt.2 h, Int.compare_eq_lt.2 h]; rfl
end Go.Proofs.Ytchkcleenmoajaa

/- Sums by keys: a sum hangs on the keys of its parts alone, is clean, and changes its sign with them. No program. -/
namespace Go.Proofs.Ytchkcleenmoajaa
open Ieee

def mR (r : Nat) : Nat := if r < 8388608 then r else 8388608 + r % 8388608
def uR (r : Nat) : Nat := if r < 8388608 then 0 else r / 8388608 - 1
theorem read_key {x : Nat} (h : finB x = true) : single.read x = .number (negB x) (mR (rung x)) ((uR (rung x) : Int) - 149) := by
  obtain ⟨m, u, e, hm, hu, hr⟩ := read_rung h
  rw [e]
  have h1 : m = mR (rung x) ∧ u = uR (rung x) := by
    unfold mR uR
    rw [← hr]
    split
    · omega
    · omega
  rw [← h1.1, ← h1.2]
/-- the part of a sum that a key brings, at the rung e -/
def bring (k : Int) (e : Nat) : Int := if k < 0 then -((mR k.natAbs <<< (uR k.natAbs - e) : Nat) : Int) else ((mR k.natAbs <<< (uR k.natAbs - e) : Nat) : Int)
def lowU (a b : Int) : Nat := min (uR a.natAbs) (uR b.natAbs)
def allS (a b : Int) : Int := bring a (lowU a b) + bring b (lowU a b)
def addK (a b : Int) : Nat := if allS a b = 0 then 0 else cleanB (single.word (decide (allS a b < 0)) (single.nearest false (allS a b).natAbs ((lowU a b : Int) - 149)))
theorem bring_neg (k : Int) (e : Nat) : bring (-k) e = -bring k e := by
  unfold bring
  rw [Int.natAbs_neg]
  rcases Int.lt_trichotomy k 0 with h | h | h
  · rw [if_neg (by omega), if_pos h]; simp
  · subst h
    have h0 : mR 0 = 0 := by decide
    simp [h0]
  · rw [if_pos (by omega), if_neg (by omega)]
theorem key_neg {x : Nat} (h : key x < 0) : negB x = true := by
  unfold key at h
  cases hn : negB x
  · rw [hn] at h; simp at h; omega
  · rfl
theorem key_pos {x : Nat} (h : 0 < key x) : negB x = false := by
  unfold key at h
  cases hn : negB x
  · rfl
  · rw [hn] at h; simp at h; omega
theorem signed_bring (x e : Nat) : signed (negB x) (mR (rung x)) (uR (rung x) - e) = bring (key x) e := by
  unfold bring signed
  rw [← rung_key]
  rcases Int.lt_trichotomy (key x) 0 with h | h | h
  · rw [key_neg h]; simp [h]
  · have h0 : rung x = 0 := by rw [rung_key, h]; rfl
    have h1 : mR 0 = 0 := by decide
    rw [h0, h1, h]
    simp
  · rw [key_pos h]
    have : ¬ key x < 0 := by omega
    simp [this]
theorem add_keys {x y : Nat} (hx : finB x = true) (hy : finB y = true) : addB x y = addK (key x) (key y) := by
  have e : addB x y = match single.add x y with | some r => cleanB r | none => 0 := rfl
  rw [e]
  unfold Format.add
  rw [read_key hx, read_key hy]
  simp only [Datum.sum, Option.map_some, Format.write]
  have hl : lowU (key x) (key y) = min (uR (rung x)) (uR (rung y)) := by unfold lowU; rw [← rung_key, ← rung_key]
  have hmin : min ((uR (rung x) : Int) - 149) ((uR (rung y) : Int) - 149) = (lowU (key x) (key y) : Int) - 149 := by rw [hl]; omega
  rw [hmin]
  have t1 : ((uR (rung x) : Int) - 149 - ((lowU (key x) (key y) : Int) - 149)).toNat = uR (rung x) - lowU (key x) (key y) := by omega
  have t2 : ((uR (rung y) : Int) - 149 - ((lowU (key x) (key y) : Int) - 149)).toNat = uR (rung y) - lowU (key x) (key y) := by omega
  rw [t1, t2, signed_bring, signed_bring]
  have hs : bring (key x) (lowU (key x) (key y)) + bring (key y) (lowU (key x) (key y)) = allS (key x) (key y) := rfl
  rw [hs]
  unfold addK
  by_cases h0 : allS (key x) (key y) = 0
  · rw [if_pos h0, if_pos h0]
    simp only [h0, Int.natAbs_zero, near_zero]
    cases negB x <;> cases negB y <;> simp <;> decide
  · rw [if_neg h0, if_neg h0, near_word]
theorem lowU_neg (a b : Int) : lowU (-a) (-b) = lowU a b := by unfold lowU; rw [Int.natAbs_neg, Int.natAbs_neg]
theorem allS_neg (a b : Int) : allS (-a) (-b) = -allS a b := by unfold allS; rw [lowU_neg, bring_neg, bring_neg]; omega
theorem addK_cw (a b : Int) : cw (addK a b) := by
  unfold addK
  split
  · exact ⟨by decide, by decide⟩
  · exact word_cw (nearest_nn _ _)
theorem addK_fin (a b : Int) : finB (addK a b) = true := (addK_cw a b).1
theorem addK_neg (a b : Int) : key (addK (-a) (-b)) = -key (addK a b) := by
  unfold addK
  rw [allS_neg, lowU_neg]
  by_cases h0 : allS a b = 0
  · rw [if_pos h0, if_pos (by omega)]; decide
  · rw [if_neg h0, if_neg (by omega), Int.natAbs_neg]
    obtain ⟨R, hR⟩ : ∃ R, R = single.nearest false (allS a b).natAbs ((lowU a b : Int) - 149) := ⟨_, rfl⟩
    have hb : R ≤ 2139095040 := by rw [hR]; exact nearest_nn _ _
    rw [← hR]
    by_cases h1 : R = 2139095040
    · rw [h1]
      have a1 : cleanB (single.word true 2139095040) = 0 := by decide
      have a2 : cleanB (single.word false 2139095040) = 0 := by decide
      have : ∀ s : Bool, key (cleanB (single.word s 2139095040)) = 0 := by intro s; cases s <;> decide
      rw [this, this]; rfl
    · have hc : ∀ s : Bool, cleanB (single.word s R) = mk s R := fun s => by rw [clean_word (by omega)]; rfl
      rw [hc, hc, (mk_key (by omega)).1, (mk_key (by omega)).1]
      rcases Int.lt_trichotomy (allS a b) 0 with h | h | h
      · have d1 : decide (-allS a b < 0) = false := by simp; omega
        have d2 : decide (allS a b < 0) = true := by simp [h]
        rw [d1, d2]; simp
      · exact absurd h h0
      · have d1 : decide (-allS a b < 0) = true := by simp; omega
        have d2 : decide (allS a b < 0) = false := by simp; omega
        rw [d1, d2]; simp
theorem addB_cw {x y : Nat} (hx : finB x = true) (hy : finB y = true) : cw (addB x y) := by rw [add_keys hx hy]; exact addK_cw _ _
/-- a number that a word has is its own nearest, at any place below -/
theorem near_exactZ {m u d : Nat} (h0 : 0 < m) (hm : m < 16777216) (hu : u = 0 ∨ 8388608 ≤ m) (hf : u * 8388608 + m < 2139095040) : single.nearest false (m <<< d) ((u : Int) - 149 - (d : Int)) = u * 8388608 + m := by
  have hl : single.leastPlace = -149 := by decide
  have hfb : single.fractionBits = 23 := rfl
  rw [Nat.shiftLeft_eq]
  have hp := Nat.two_pow_pos d
  have hM : 0 < m * 2 ^ d := Nat.mul_pos h0 hp
  have hL1 : 2 ^ m.log2 ≤ m := Nat.log2_self_le (by omega)
  have hL2 : m < 2 ^ (m.log2 + 1) := Nat.lt_log2_self
  have hlog : (m * 2 ^ d).log2 = m.log2 + d := by
    refine log2_bd ?_ ?_
    · rw [Nat.pow_add]; exact Nat.mul_le_mul_right _ hL1
    · rw [show m.log2 + d + 1 = (m.log2 + 1) + d by omega, Nat.pow_add]; exact Nat.mul_lt_mul_of_pos_right hL2 hp
  have hmL : m.log2 < 24 := (Nat.log2_lt (by omega)).2 hm
  unfold Format.nearest
  rw [if_neg (by omega), hl, hfb, c_bin, c_inf, word_false, hlog]
  try simp only []
  have hlast : max ((u : Int) - 149 - (d : Int) + ((m.log2 + d : Nat) : Int) - (23 : Nat)) (-149) = (u : Int) - 149 := by
    rcases hu with h | h
    · omega
    · have : 23 ≤ m.log2 := (Nat.le_log2 (by omega)).2 h
      omega
  rw [hlast]
  have z1 : ((u : Int) - 149 - (d : Int) - ((u : Int) - 149)).toNat = 0 := by omega
  have z2 : ((u : Int) - 149 - ((u : Int) - 149 - (d : Int))).toNat = d := by omega
  have z3 : ((u : Int) - 149 - -149).toNat = u := by omega
  rw [z1, z2, z3, Nat.shiftLeft_zero]
  have hk : Toward.even.cut false (m * 2 ^ d) d = m := by
    unfold Toward.cut
    rw [hlog, Nat.min_eq_left (by omega), Nat.one_shiftLeft]
    try simp only []
    have r0 : m * 2 ^ d % 2 ^ d = 0 := Nat.mul_mod_left _ _
    have d0 : m * 2 ^ d / 2 ^ d = m := Nat.mul_div_cancel _ hp
    rw [r0, d0]
    have c1 : decide (2 ^ d < 2 * 0) = false := by simp
    have c2 : (2 ^ d == 2 * 0) = false := by simp
    rw [c1, c2]
    simp
  rw [hk]
  exact Nat.min_eq_left (Nat.le_of_lt hf)
theorem read_one : single.read 1065353216 = .number false 8388608 (-23) := by decide
/-- times one -/
theorem mul_one_eq {y : Nat} (hy : finB y = true) : mulB y 1065353216 = mk (negB y) (rung y) := by
  obtain ⟨m, u, ey, hm, hu, hr⟩ := read_rung hy
  have hf := fin_rung hy
  have e : mulB y 1065353216 = match single.mul y 1065353216 with | some r => cleanB r | none => 0 := rfl
  rw [e]
  unfold Format.mul
  rw [read_one, ey]
  simp only [Datum.product, Option.map_some, Format.write]
  rw [Bool.xor_false, near_word]
  by_cases h0 : m = 0
  · have hu0 : u = 0 := by rcases hu with h | h <;> omega
    have hr0 : rung y = 0 := by omega
    subst h0 hu0
    rw [hr0, Nat.zero_mul, near_zero, word_false, clean_word (by omega)]
    simp [mk]
  · have hx := near_exactZ (m := m) (u := u) (d := 23) (by omega) hm hu (by omega)
    rw [Nat.shiftLeft_eq] at hx
    have e2 : (2 : Nat) ^ 23 = 8388608 := by decide
    rw [e2] at hx
    have ep : (u : Int) - 149 + -23 = (u : Int) - 149 - ((23 : Nat) : Int) := by omega
    rw [ep, hx, hr, clean_word hf]
    rfl
theorem mul_one_key {y : Nat} (hy : finB y = true) : key (mulB y 1065353216) = key y ∧ finB (mulB y 1065353216) = true := by
  rw [mul_one_eq hy]
  obtain ⟨h1, h2⟩ := mk_key (s := negB y) (fin_rung hy)
  exact ⟨by rw [h1]; rfl, h2⟩
theorem one_sub_zero : subB 1065353216 0 = 1065353216 := by decide +kernel
end Go.Proofs.Ytchkcleenmoajaa

/- Differences and products by keys. No program. -/
namespace Go.Proofs.Ytchkcleenmoajaa
open Ieee

theorem allS_comm (a b : Int) : allS a b = allS b a := by
  unfold allS lowU
  rw [Nat.min_comm, Int.add_comm]
theorem addK_comm (a b : Int) : addK a b = addK b a := by
  unfold addK
  rw [allS_comm]
  unfold lowU
  rw [Nat.min_comm]
theorem signed_not (s : Bool) (m k : Nat) : signed (!s) m k = -signed s m k := by
  unfold signed
  cases s <;> simp
theorem sub_keys {x y : Nat} (hx : finB x = true) (hy : finB y = true) : subB x y = addK (key x) (-(key y)) := by
  have e : subB x y = match single.sub x y with | some r => cleanB r | none => 0 := rfl
  rw [e]
  unfold Format.sub
  rw [read_key hx, read_key hy]
  simp only [Datum.opposite, Datum.sum, Option.map_some, Format.write]
  have hl : lowU (key x) (-(key y)) = min (uR (rung x)) (uR (rung y)) := by unfold lowU; rw [Int.natAbs_neg, ← rung_key, ← rung_key]
  have hmin : min ((uR (rung x) : Int) - 149) ((uR (rung y) : Int) - 149) = (lowU (key x) (-(key y)) : Int) - 149 := by rw [hl]; omega
  rw [hmin]
  have t1 : ((uR (rung x) : Int) - 149 - ((lowU (key x) (-(key y)) : Int) - 149)).toNat = uR (rung x) - lowU (key x) (-(key y)) := by omega
  have t2 : ((uR (rung y) : Int) - 149 - ((lowU (key x) (-(key y)) : Int) - 149)).toNat = uR (rung y) - lowU (key x) (-(key y)) := by omega
  rw [t1, t2, signed_not, signed_bring, signed_bring, ← bring_neg]
  have hs : bring (key x) (lowU (key x) (-(key y))) + bring (-(key y)) (lowU (key x) (-(key y))) = allS (key x) (-(key y)) := rfl
  rw [hs]
  unfold addK
  by_cases h0 : allS (key x) (-(key y)) = 0
  · rw [if_pos h0, if_pos h0]
    simp only [h0, Int.natAbs_zero, near_zero]
    cases negB x <;> cases negB y <;> simp <;> decide
  · rw [if_neg h0, if_neg h0, near_word]
/-- a product by keys -/
def mulK (a b : Int) : Nat := if mR a.natAbs * mR b.natAbs = 0 then 0 else cleanB (single.word (decide (a < 0) != decide (b < 0)) (single.nearest false (mR a.natAbs * mR b.natAbs) (((uR a.natAbs : Int) - 149) + ((uR b.natAbs : Int) - 149))))
theorem mR_zero {r : Nat} (h : mR r = 0) : r = 0 := by
  unfold mR at h
  split at h
  · exact h
  · omega
theorem neg_sign {x : Nat} (h : mR (rung x) ≠ 0) : negB x = decide (key x < 0) := by
  have hr : rung x ≠ 0 := fun e => h (by rw [e]; decide)
  unfold key
  cases negB x
  · simp
  · simp; omega
theorem mul_keys {x y : Nat} (hx : finB x = true) (hy : finB y = true) : mulB x y = mulK (key x) (key y) := by
  have e : mulB x y = match single.mul x y with | some r => cleanB r | none => 0 := rfl
  rw [e]
  unfold Format.mul
  rw [read_key hx, read_key hy]
  simp only [Datum.product, Option.map_some, Format.write]
  unfold mulK
  rw [← rung_key, ← rung_key]
  by_cases h0 : mR (rung x) * mR (rung y) = 0
  · rw [if_pos h0, h0, near_zero]
    cases negB x <;> cases negB y <;> decide
  · rw [if_neg h0, near_word, neg_sign (fun e => h0 (by rw [e, Nat.zero_mul])), neg_sign (fun e => h0 (by rw [e, Nat.mul_zero]))]
theorem cleanW {R : Nat} (hb : R ≤ 2139095040) (s : Bool) : key (cleanB (single.word (!s) R)) = -key (cleanB (single.word s R)) := by
  by_cases h1 : R = 2139095040
  · rw [h1]
    have : ∀ s : Bool, key (cleanB (single.word s 2139095040)) = 0 := by intro s; cases s <;> decide
    rw [this, this]; rfl
  · have hc : ∀ s : Bool, cleanB (single.word s R) = mk s R := fun s => by rw [clean_word (by omega)]; rfl
    rw [hc, hc, (mk_key (by omega)).1, (mk_key (by omega)).1]
    cases s <;> simp
theorem mulK_neg (a b : Int) : key (mulK (-a) b) = -key (mulK a b) := by
  unfold mulK
  rw [Int.natAbs_neg]
  by_cases h0 : mR a.natAbs * mR b.natAbs = 0
  · rw [if_pos h0, if_pos h0]; decide
  · rw [if_neg h0, if_neg h0]
    have ha : a ≠ 0 := fun e => h0 (by rw [e, show mR (0 : Int).natAbs = 0 by decide, Nat.zero_mul])
    have hd : decide (-a < 0) = !decide (a < 0) := by
      rcases Int.lt_trichotomy a 0 with h | h | h
      · simp [h]; omega
      · exact absurd h ha
      · have h1 : ¬ a < 0 := by omega
        have h2 : -a < 0 := by omega
        rw [decide_eq_true h2, decide_eq_false h1]
        rfl
    rw [hd]
    have : ((!decide (a < 0)) != decide (b < 0)) = !(decide (a < 0) != decide (b < 0)) := by cases decide (a < 0) <;> cases decide (b < 0) <;> rfl
    rw [this, cleanW (nearest_nn _ _)]
theorem mulK_comm (a b : Int) : mulK a b = mulK b a := by
  unfold mulK
  rw [Nat.mul_comm, Int.add_comm ((uR a.natAbs : Int) - 149)]
  have : (decide (a < 0) != decide (b < 0)) = (decide (b < 0) != decide (a < 0)) := by cases decide (a < 0) <;> cases decide (b < 0) <;> rfl
  rw [this]
theorem mulK_neg' (a b : Int) : key (mulK a (-b)) = -key (mulK a b) := by rw [mulK_comm, mulK_neg, mulK_comm]
theorem mulK_cw (a b : Int) : cw (mulK a b) := by
  unfold mulK
  split
  · exact ⟨by decide, by decide⟩
  · exact word_cw (nearest_nn _ _)
theorem mulK_fin (a b : Int) : finB (mulK a b) = true := (mulK_cw a b).1
theorem mulB_cw {x y : Nat} (hx : finB x = true) (hy : finB y = true) : cw (mulB x y) := by rw [mul_keys hx hy]; exact mulK_cw _ _
theorem subB_cw {x y : Nat} (hx : finB x = true) (hy : finB y = true) : cw (subB x y) := by rw [sub_keys hx hy]; exact addK_cw _ _
end Go.Proofs.Ytchkcleenmoajaa
