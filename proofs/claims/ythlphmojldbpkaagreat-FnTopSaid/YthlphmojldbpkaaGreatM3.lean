/- Run · FltM · FltK · FltN · GeoI · TumL · FoldS · FltZ · TumS · FltA · TumA · FltB · SideL · Step · DrawP · PlusS · DrawH · Box · Del · StepT · HeldT -/
import Derived.Test.YthlphmojldbpkaaGreatTick
import Derived.Test.YthlphmojldbpkaaGreatM1
import Derived.Test.YthlphmojldbpkaaGreatM0
import Derived.Deep.RegionLaw
import Derived.Deep.AppendLies
import Derived.Laws.IdiomCopy
import Derived.Deep.RegionHeld3

/- run, RunTumble: the program's. -/
namespace Go.Proofs.YthlphmojldbpkaaGreat
open Go.RowKit
attribute [local go_sem] run_store_float run_store_complex

def addF (c : Int) (f : Bool) : Int := if f then c + 1 else c
/-- k ticks: the beads, and how often each was folded -/
def runUp (mir : Int) (gr : Pt) (loss : Nat) (bs : List Bd) : Nat → Option (List Bd × List Int)
  | 0 => some (bs, List.replicate bs.length 0)
  | k + 1 => match runUp mir gr loss bs k with
    | some (b, c) => if allGo gr b then some (goL mir gr loss b, List.zipWith addF c (goF mir gr loss b)) else none
    | none => none
theorem runUp_yes {mir : Int} {gr : Pt} {loss : Nat} {bs b : List Bd} {c : List Int} {k : Nat} (h : runUp mir gr loss bs k = some (b, c)) (hg : allGo gr b = true) : runUp mir gr loss bs (k + 1) = some (goL mir gr loss b, List.zipWith addF c (goF mir gr loss b)) := by
  unfold runUp; rw [h]; simp [hg]
theorem runUp_no {mir : Int} {gr : Pt} {loss : Nat} {bs b : List Bd} {c : List Int} {k : Nat} (h : runUp mir gr loss bs k = some (b, c)) (hg : allGo gr b = false) : runUp mir gr loss bs (k + 1) = none := by
  unfold runUp; rw [h]; simp [hg]
theorem runUp_none {mir : Int} {gr : Pt} {loss : Nat} {bs : List Bd} {k : Nat} (h : runUp mir gr loss bs k = none) : ∀ j, runUp mir gr loss bs (k + j) = none
  | 0 => h
  | j + 1 => by
    have ih := runUp_none h j
    show runUp mir gr loss bs (k + j + 1) = none
    unfold runUp; rw [ih]
theorem runUp_len {mir : Int} {gr : Pt} {loss : Nat} {bs : List Bd} : ∀ {k : Nat} {b : List Bd} {c : List Int}, runUp mir gr loss bs k = some (b, c) → b.length = bs.length ∧ c.length = bs.length
  | 0, b, c, h => by
    unfold runUp at h
    injection h with h
    injection h with h1 h2
    subst h1 h2
    simp
  | k + 1, b, c, h => by
    cases hk : runUp mir gr loss bs k with
    | none => unfold runUp at h; rw [hk] at h; cases h
    | some r =>
      obtain ⟨b', c'⟩ := r
      have ih := runUp_len hk
      unfold runUp at h
      rw [hk] at h
      simp only at h
      split at h
      · injection h with h
        injection h with h1 h2
        subst h1 h2
        simp [goL, goF, ih.1, ih.2]
      · cases h
def runOk (mir : Int) (gr : Pt) (loss : Nat) (bs : List Bd) (N : Int) : Option (List Bd × List Int) := if tumB mir gr loss bs && inB N 0 64 then runUp mir gr loss bs N.toNat else none
end Go.Proofs.YthlphmojldbpkaaGreat

/- A part of a colour times sixteen, as a whole number. -/
namespace Go.Proofs.YthlphmojldbpkaaGreat
open Ieee

theorem leB_fin {x y : Nat} (hx : finB x = true) (hy : finB y = true) : leB x y = decide (key x ≤ key y) := by
  unfold leB
  rw [ord_fin hx hy, Bool.eq_iff_iff]
  have := compare_of (a := key x) (b := key y) (c := key x) (d := key y) Iff.rfl Iff.rfl
  cases h : compare (key x) (key y)
  · have := Int.compare_eq_lt.1 h
    simp; omega
  · have := Int.compare_eq_eq.1 h
    simp; omega
  · have := Int.compare_eq_gt.1 h
    simp; omega
theorem part_rung {x : Nat} (h : partB x = true) : rung x ≤ 1065353216 ∧ (negB x = true → rung x = 0) := by
  have hf := part_fin h
  have f1 : finB 1065353216 = true := by decide
  have f0 : finB 0 = true := by decide
  unfold partB at h
  rw [Bool.and_eq_true] at h
  obtain ⟨h0, h1⟩ := h
  rw [leB_fin hf f1, decide_eq_true_eq] at h1
  have e0 : leB 0 x = true := by
    unfold geB at h0
    unfold leB
    rw [ord_fin hf f0] at h0
    rw [ord_fin f0 hf]
    cases h : compare (key x) (key 0)
    · rw [h] at h0; simp at h0
    · have := Int.compare_eq_eq.1 h
      rw [this]; simp
    · have := Int.compare_eq_gt.1 h
      have : compare (key 0) (key x) = .lt := Int.compare_eq_lt.2 this
      rw [this]; simp
  rw [leB_fin f0 hf, decide_eq_true_eq] at e0
  rw [key_nn (show (1065353216 : Nat) < 2147483648 by omega)] at h1
  rw [key_nn (show (0 : Nat) < 2147483648 by omega)] at e0
  unfold key at h1 e0
  cases hn : negB x
  · rw [hn] at h1 e0
    simp only [Bool.false_eq_true, if_false] at h1 e0
    exact ⟨by omega, fun h => by cases h⟩
  · rw [hn] at h1 e0
    simp only [if_true] at h1 e0
    exact ⟨by omega, fun _ => by omega⟩

theorem log2_bd {n k : Nat} (h1 : 2 ^ k ≤ n) (h2 : n < 2 ^ (k + 1)) : n.log2 = k := by
  have h0 : n ≠ 0 := by have := Nat.two_pow_pos k; omega
  have a := (Nat.le_log2 h0).2 h1
  have b := (Nat.log2_lt h0).2 h2
  omega

end Go.Proofs.YthlphmojldbpkaaGreat

/- A float times a part: no greater; times one: the same. -/
namespace Go.Proofs.YthlphmojldbpkaaGreat
open Ieee

theorem cut_le {n d N : Nat} (h : n ≤ N * 2 ^ d) : Toward.even.cut false n d ≤ N := by
  unfold Toward.cut
  simp only []
  by_cases hd : d ≤ n.log2 + 2
  · rw [Nat.min_eq_left hd, Nat.one_shiftLeft]
    have hp := Nat.two_pow_pos d
    generalize 2 ^ d = G at h hp ⊢
    have hl : n / G ≤ N := Nat.div_le_of_le_mul (by rw [Nat.mul_comm]; exact h)
    by_cases e : n / G = N
    · have h1 := Nat.div_add_mod n G
      have h2 : n % G = 0 := by
        rw [e, Nat.mul_comm] at h1
        omega
      rw [h2, e]
      have c1 : decide (G < 2 * 0) = false := by simp
      have c2 : (G == 2 * 0) = false := by simp; omega
      rw [c1, c2]
      simp
    · have h5 : ∀ b : Bool, b.toNat ≤ 1 := by decide
      exact Nat.le_trans (Nat.add_le_add (Nat.le_refl _) (h5 _)) (by omega)
  · rw [Nat.min_eq_right (by omega), Nat.one_shiftLeft]
    have h4 : n < 2 ^ (n.log2 + 1) := Nat.lt_log2_self
    have h5 : 2 ^ (n.log2 + 2) = 2 * 2 ^ (n.log2 + 1) := by rw [Nat.pow_succ, Nat.mul_comm]
    rw [h5]
    generalize 2 ^ (n.log2 + 1) = G at h4 ⊢
    have h6 : n / (2 * G) = 0 := Nat.div_eq_of_lt (by omega)
    have h7 : n % (2 * G) = n := Nat.mod_eq_of_lt (by omega)
    rw [h6, h7]
    have c1 : decide (2 * G < 2 * n) = false := by simp; omega
    have c2 : (2 * G == 2 * n) = false := by simp; omega
    rw [c1, c2]
    simp
/-- the number of a rung: its digits and their place -/
theorem read_rung {x : Nat} (h : finB x = true) : ∃ (m : Nat) (u : Nat), single.read x = .number (negB x) m ((u : Int) - 149) ∧ m < 16777216 ∧ (u = 0 ∨ 8388608 ≤ m) ∧ u * 8388608 + m = rung x := by
  simp only [finB, decide_eq_true_eq] at h
  have hl : single.leastPlace = -149 := by decide
  unfold Format.read
  rw [c_sw, c_bin, c_inf, hl]
  unfold rung negB
  by_cases h1 : x % 2147483648 < 8388608
  · exact ⟨x % 2147483648, 0, by simp [h1], by omega, .inl rfl, by omega⟩
  · refine ⟨8388608 + x % 2147483648 % 8388608, x % 2147483648 / 8388608 - 1, ?_, by omega, .inr (by omega), by omega⟩
    simp only [if_neg h1]
    rw [if_pos h]
    congr 1
theorem near_zero (s : Bool) (p : Int) : single.nearest s 0 p = single.word s 0 := by unfold Format.nearest; simp
theorem near_word (s : Bool) (M : Nat) (p : Int) : single.nearest s M p = single.word s (single.nearest false M p) := by
  unfold Format.nearest
  by_cases h : M = 0
  · simp [h, Format.word]
  · simp only [if_neg h]
    have hc : ∀ (n d : Nat), Toward.even.cut s n d = Toward.even.cut false n d := fun _ _ => rfl
    rw [hc, word_false]
/-- no greater than a number that a word has: no greater word -/
theorem near_le {M m u : Nat} {j : Int} (hM : 0 < M) (hm : m < 16777216) (hu : u = 0 ∨ 8388608 ≤ m) (hj : j ≤ 0) (hMm : M ≤ m * 2 ^ (-j).toNat) : single.nearest false M ((u : Int) - 149 + j) ≤ u * 8388608 + m := by
  have hl : single.leastPlace = -149 := by decide
  have hfb : single.fractionBits = 23 := rfl
  have hL2 : 2 ^ M.log2 ≤ M := Nat.log2_self_le (by omega)
  have hlt : M < 2 ^ (M.log2 + 1) := Nat.lt_log2_self
  have hLb : M.log2 < 24 + (-j).toNat := by
    refine (Nat.log2_lt (by omega)).2 (Nat.lt_of_le_of_lt hMm ?_)
    rw [Nat.pow_add]
    exact Nat.mul_lt_mul_of_pos_right (by omega) (Nat.two_pow_pos _)
  unfold Format.nearest
  rw [if_neg (by omega), hl, hfb, c_bin, c_inf, word_false]
  try simp only []
  generalize M.log2 = L at hL2 hlt hLb ⊢
  obtain ⟨last, hlast⟩ : ∃ last : Int, last = max ((u : Int) - 149 + j + (L : Int) - (23 : Nat)) (-149) := ⟨_, rfl⟩
  rw [← hlast]
  have b1 : last ≤ (u : Int) - 149 := by omega
  have b2 : -149 ≤ last := by omega
  refine Nat.le_trans (Nat.min_le_left _ _) ?_
  by_cases he : last = (u : Int) - 149
  · have z1 : ((u : Int) - 149 + j - last).toNat = 0 := by omega
    have z2 : (last - ((u : Int) - 149 + j)).toNat = (-j).toNat := by omega
    have z3 : (last - -149).toNat = u := by omega
    rw [z1, z2, z3, Nat.shiftLeft_zero]
    have := cut_le hMm
    omega
  · have hk : Toward.even.cut false (M <<< ((u : Int) - 149 + j - last).toNat) (last - ((u : Int) - 149 + j)).toNat ≤ 16777216 := by
      refine cut_le ?_
      have h1 : M <<< ((u : Int) - 149 + j - last).toNat < 2 ^ (L + 1 + ((u : Int) - 149 + j - last).toNat) := by
        rw [Nat.shiftLeft_eq, Nat.pow_add]
        exact Nat.mul_lt_mul_of_pos_right hlt (Nat.two_pow_pos _)
      have h2 : 2 ^ (L + 1 + ((u : Int) - 149 + j - last).toNat) ≤ 2 ^ (24 + (last - ((u : Int) - 149 + j)).toNat) := Nat.pow_le_pow_right (by omega) (by omega)
      rw [Nat.pow_add 2 24] at h2
      exact Nat.le_of_lt (Nat.lt_of_lt_of_le h1 h2)
    have h3 : (last - -149).toNat + 1 ≤ u := by omega
    have h4 : 8388608 ≤ m := by rcases hu with h | h <;> omega
    generalize (last - -149).toNat = v at h3
    generalize Toward.even.cut false (M <<< ((u : Int) - 149 + j - last).toNat) (last - ((u : Int) - 149 + j)).toNat = kept at hk
    clear hlast hL2 hlt hMm
    omega

theorem near_mul_le {m n u : Nat} {j : Int} (hM : 0 < m * n) (hm : m < 16777216) (hu : u = 0 ∨ 8388608 ≤ m) (hj : j ≤ 0) (hn : n ≤ 2 ^ (-j).toNat) : single.nearest false (m * n) ((u : Int) - 149 + j) ≤ u * 8388608 + m :=
  near_le hM hm hu hj (Nat.mul_le_mul_left _ hn)
theorem clean_word {s : Bool} {r : Nat} (h : r < 2139095040) : cleanB (single.word s r) = if r = 0 then 0 else single.word s r := by
  have hm : single.word s r % 2147483648 = r := by
    unfold Format.word
    rw [c_sw]
    split <;> omega
  unfold cleanB finB zeroB
  rw [hm]
  by_cases h0 : r = 0
  · simp [h0]
  · simp [h0, h]
theorem word_rung {s : Bool} {r : Nat} (h : r < 2139095040) : rung (single.word s r) = r ∧ negB (single.word s r) = s := by
  unfold rung negB Format.word
  rw [c_sw]
  cases s
  · simp only [Bool.false_eq_true, if_false]
    have : r / 2147483648 = 0 := Nat.div_eq_of_lt (by omega)
    rw [this]
    exact ⟨by omega, rfl⟩
  · simp only [if_true]
    have : (2147483648 + r) / 2147483648 = 1 := by omega
    rw [this]
    exact ⟨by omega, rfl⟩
theorem fin_rung {x : Nat} (h : finB x = true) : rung x < 2139095040 := by
  simp only [finB, decide_eq_true_eq] at h
  exact h
/-- a float times a part is no greater, and of the same sign or nought -/
theorem mul_part {x k : Nat} (hx : finB x = true) (hk : partB k = true) : ∃ R, R ≤ rung x ∧ mulB x k = if R = 0 then 0 else single.word (negB x) R := by
  obtain ⟨m, u, ex, hm, hu, hr⟩ := read_rung hx
  have hf := fin_rung hx
  obtain ⟨k1, k2⟩ := part_rung hk
  obtain ⟨n, v, ek, hn, hv, hrk⟩ := read_rung (part_fin hk)
  have e : mulB x k = match single.mul x k with | some r => cleanB r | none => 0 := rfl
  rw [e]
  unfold Format.mul
  rw [ex, ek]
  simp only [Datum.product, Option.map_some, Format.write]
  by_cases hn0 : m * n = 0
  · refine ⟨0, Nat.zero_le _, ?_⟩
    rw [hn0, near_zero, clean_word (by omega)]
    simp
  · have hnpos : 0 < n := by
      rcases Nat.eq_zero_or_pos n with h | h
      · rw [h, Nat.mul_zero] at hn0; exact absurd rfl hn0
      · exact h
    have hs : negB k = false := by
      cases h : negB k
      · rfl
      · have := k2 h
        omega
    rw [hs, Bool.xor_false, near_word]
    have hj : (v : Int) - 149 ≤ 0 ∧ n ≤ 2 ^ (-((v : Int) - 149)).toNat := by
      have hv1 : v * 8388608 + n ≤ 1065353216 := by omega
      have hv126 : v ≤ 126 := by omega
      by_cases hv2 : v = 126
      · refine ⟨by omega, ?_⟩
        have : (-((v : Int) - 149)).toNat = 23 := by omega
        rw [this]
        omega
      · refine ⟨by omega, ?_⟩
        have h24 : 24 ≤ (-((v : Int) - 149)).toNat := by omega
        have := Nat.pow_le_pow_right (show 0 < 2 by omega) h24
        omega
    have hle := near_mul_le (m := m) (n := n) (u := u) (j := (v : Int) - 149) (by omega) hm hu hj.1 hj.2
    have ep : (u : Int) - 149 + ((v : Int) - 149) = (u : Int) - 149 + ((v : Int) - 149) := rfl
    refine ⟨single.nearest false (m * n) ((u : Int) - 149 + ((v : Int) - 149)), by omega, ?_⟩
    exact clean_word (by omega)
theorem mul_key {x k : Nat} (hx : finB x = true) (hk : partB k = true) : finB (mulB x k) = true ∧ (key (mulB x k)).natAbs ≤ (key x).natAbs := by
  obtain ⟨R, h1, h2⟩ := mul_part hx hk
  have hf := fin_rung hx
  have hkx : (key x).natAbs = rung x := by unfold key; cases negB x <;> simp
  rw [h2, hkx]
  by_cases h0 : R = 0
  · rw [if_pos h0]; exact ⟨by decide, by simp [key_nn]⟩
  · rw [if_neg h0]
    obtain ⟨w1, w2⟩ := word_rung (s := negB x) (r := R) (by omega)
    refine ⟨?_, ?_⟩
    · unfold rung at w1
      unfold finB
      rw [w1]
      simpa using by omega
    · unfold key
      rw [w1]
      cases negB (single.word (negB x) R) <;> simp <;> exact h1
end Go.Proofs.YthlphmojldbpkaaGreat

/- Exact results: minus nothing, nothing minus; signs. -/
namespace Go.Proofs.YthlphmojldbpkaaGreat
open Ieee

/-- a number that a word has is its own nearest -/
theorem near_exact {m u v : Nat} (h0 : 0 < m) (hm : m < 16777216) (hu : u = 0 ∨ 8388608 ≤ m) (hf : u * 8388608 + m < 2139095040) (hv : v ≤ u) : single.nearest false (m <<< (u - v)) ((v : Int) - 149) = u * 8388608 + m := by
  have hl : single.leastPlace = -149 := by decide
  have hfb : single.fractionBits = 23 := rfl
  rw [Nat.shiftLeft_eq]
  have hp := Nat.two_pow_pos (u - v)
  have hM : 0 < m * 2 ^ (u - v) := Nat.mul_pos h0 hp
  have hL1 : 2 ^ m.log2 ≤ m := Nat.log2_self_le (by omega)
  have hL2 : m < 2 ^ (m.log2 + 1) := Nat.lt_log2_self
  have hlog : (m * 2 ^ (u - v)).log2 = m.log2 + (u - v) := by
    refine log2_bd ?_ ?_
    · rw [Nat.pow_add]; exact Nat.mul_le_mul_right _ hL1
    · rw [show m.log2 + (u - v) + 1 = (m.log2 + 1) + (u - v) by omega, Nat.pow_add]; exact Nat.mul_lt_mul_of_pos_right hL2 hp
  have hmL : m.log2 < 24 := (Nat.log2_lt (by omega)).2 hm
  unfold Format.nearest
  rw [if_neg (by omega), hl, hfb, c_bin, c_inf, word_false, hlog]
  try simp only []
  have hlast : max ((v : Int) - 149 + ((m.log2 + (u - v) : Nat) : Int) - (23 : Nat)) (-149) = (u : Int) - 149 := by
    rcases hu with h | h
    · omega
    · have : 23 ≤ m.log2 := (Nat.le_log2 (by omega)).2 h
      omega
  rw [hlast]
  have z1 : ((v : Int) - 149 - ((u : Int) - 149)).toNat = 0 := by omega
  have z2 : ((u : Int) - 149 - ((v : Int) - 149)).toNat = u - v := by omega
  have z3 : ((u : Int) - 149 - -149).toNat = u := by omega
  rw [z1, z2, z3, Nat.shiftLeft_zero]
  have hk : Toward.even.cut false (m * 2 ^ (u - v)) (u - v) = m := by
    unfold Toward.cut
    rw [hlog, Nat.min_eq_left (by omega), Nat.one_shiftLeft]
    try simp only []
    have r0 : m * 2 ^ (u - v) % 2 ^ (u - v) = 0 := Nat.mul_mod_left _ _
    have d0 : m * 2 ^ (u - v) / 2 ^ (u - v) = m := Nat.mul_div_cancel _ hp
    rw [r0, d0]
    have c1 : decide (2 ^ (u - v) < 2 * 0) = false := by simp
    have c2 : (2 ^ (u - v) == 2 * 0) = false := by simp
    rw [c1, c2]
    simp
  rw [hk]
  exact Nat.min_eq_left (Nat.le_of_lt hf)
/-- of this sign and rung, nought without a sign -/
def mk (s : Bool) (r : Nat) : Nat := if r = 0 then 0 else single.word s r
theorem mk_key {s : Bool} {r : Nat} (h : r < 2139095040) : key (mk s r) = (if s then -(r : Int) else (r : Int)) ∧ finB (mk s r) = true := by
  unfold mk
  by_cases h0 : r = 0
  · subst h0
    rw [if_pos rfl]
    cases s <;> exact ⟨by decide, by decide⟩
  · rw [if_neg h0]
    obtain ⟨w1, w2⟩ := word_rung (s := s) h
    refine ⟨by unfold key; rw [w1, w2], ?_⟩
    unfold rung at w1
    unfold finB
    rw [w1]
    simpa using h
theorem neg_sub {y : Nat} (hy : finB y = true) : subB 0 y = mk (!negB y) (rung y) := by
  obtain ⟨m, u, ey, hm, hu, hr⟩ := read_rung hy
  have hf := fin_rung hy
  have e : subB 0 y = match single.sub 0 y with | some r => cleanB r | none => 0 := rfl
  rw [e]
  unfold Format.sub
  rw [read_zero, ey]
  simp only [Datum.opposite, Datum.sum, Option.map_some, Format.write]
  have hmin : min (-149 : Int) ((u : Int) - 149) = -149 := by omega
  rw [hmin]
  have t1 : ((u : Int) - 149 - -149).toNat = u := by omega
  rw [signed_zero, t1, Int.zero_add]
  by_cases h0 : m = 0
  · have hu0 : u = 0 := by rcases hu with h | h <;> omega
    have hr0 : rung y = 0 := by omega
    subst h0 hu0
    have hs : signed (!negB y) 0 0 = 0 := by unfold signed; simp
    rw [hs, hr0]
    simp only [Int.natAbs_zero, near_zero, if_true]
    rw [clean_word (by omega)]
    simp [mk]
  · have hpos : 0 < m <<< u := by rw [Nat.shiftLeft_eq]; exact Nat.mul_pos (by omega) (Nat.two_pow_pos _)
    obtain ⟨M, hM⟩ : ∃ M, M = m <<< u := ⟨_, rfl⟩
    have hsv : ∀ s : Bool, signed s m u = if s then -(M : Int) else (M : Int) := fun s => by unfold signed; rw [← hM]
    rw [← hM] at hpos
    have hab : (signed (!negB y) m u).natAbs = m <<< u := by rw [hsv, ← hM]; cases negB y <;> simp
    have hne : signed (!negB y) m u ≠ 0 := by rw [hsv]; cases negB y <;> simp <;> omega
    have hsg : decide (signed (!negB y) m u < 0) = !negB y := by
      rw [hsv]
      cases negB y
      · simp; omega
      · simp
    rw [if_neg hne, hsg, hab, near_word]
    have hx := near_exact (m := m) (u := u) (v := 0) (by omega) hm hu (by omega) (Nat.zero_le _)
    rw [Nat.sub_zero] at hx
    have e149 : ((0 : Nat) : Int) - 149 = -149 := by omega
    rw [e149] at hx
    rw [hx, hr, clean_word hf]
    rfl

/-- nothing minus y: minus y -/
theorem neg_key {y : Nat} (hy : finB y = true) : key (subB 0 y) = -key y ∧ finB (subB 0 y) = true := by
  rw [neg_sub hy]
  obtain ⟨h1, h2⟩ := mk_key (s := !negB y) (fin_rung hy)
  refine ⟨?_, h2⟩
  rw [h1]
  unfold key
  cases negB y <;> simp
theorem clean_key {y : Nat} (hy : finB y = true) : key (cleanB y) = key y ∧ finB (cleanB y) = true := by
  refine ⟨?_, cleanB_fin y⟩
  unfold cleanB
  rw [hy]
  cases hz : zeroB y
  · rfl
  · simp only [Bool.not_true, Bool.and_false, Bool.false_eq_true, if_false]
    have h0 : rung y = 0 := by unfold zeroB at hz; simpa [rung] using hz
    unfold key
    rw [h0]
    cases negB y <;> simp [negB, rung]
theorem reach_key {x : Nat} (hx : finB x = true) : reachB x = decide ((key x).natAbs ≤ 1166016512) := by
  have f1 : finB 1166016512 = true := by decide
  have f2 : finB 3313500160 = true := by decide
  have k1 : key 1166016512 = 1166016512 := by decide
  have k2 : key 3313500160 = -1166016512 := by decide
  have hge : geB x 3313500160 = decide (-1166016512 ≤ key x) := by
    have h := leB_fin f2 hx
    have e : geB x 3313500160 = leB 3313500160 x := by
      unfold geB leB
      rw [ord_fin hx f2, ord_fin f2 hx]
      rcases Int.lt_trichotomy (key x) (key 3313500160) with h | h | h
      · rw [Int.compare_eq_lt.2 h, Int.compare_eq_gt.2 h]; rfl
      · rw [Int.compare_eq_eq.2 h, Int.compare_eq_eq.2 h.symm]; rfl
      · rw [Int.compare_eq_gt.2 h, Int.compare_eq_lt.2 h]; rfl
    rw [e, h, k2]
  unfold reachB
  rw [hge, leB_fin hx f1, k1, Bool.eq_iff_iff]
  simp only [Bool.and_eq_true, decide_eq_true_eq]
  omega

theorem cleanB_word0' (s : Bool) : cleanB (single.word s 0) = 0 := by cases s <;> decide
/-- one minus a part is a part -/
theorem one_sub {x : Nat} (hx : partB x = true) : partB (subB 1065353216 x) = true := by
  have f1 : finB 1065353216 = true := by decide
  have hf := part_fin hx
  obtain ⟨m, i, ex, hi, vx⟩ := read_val f1
  obtain ⟨n, v, ey, hn, hv, hrx⟩ := read_rung hf
  have e1 : single.read 1065353216 = .number false 8388608 (-23) := by decide
  obtain ⟨r1, r2⟩ := part_rung hx
  have e : subB 1065353216 x = match single.sub 1065353216 x with | some r => cleanB r | none => 0 := rfl
  have key1 : ∀ R, R ≤ 1065353216 → partB (cleanB R) = true := by
    intro R hR
    have hc : cleanB R = R := by
      unfold cleanB finB zeroB
      have hm' : R % 2147483648 = R := Nat.mod_eq_of_lt (by omega)
      rw [hm']
      by_cases h0 : R = 0
      · simp [h0]
      · simp [h0]; omega
    rw [hc]
    have hfR : finB R = true := by unfold finB; simp only [decide_eq_true_eq]; omega
    have f0 : finB 0 = true := by decide
    have hge : geB R 0 = true := by
      have h := leB_fin f0 hfR
      have e' : geB R 0 = leB 0 R := by
        unfold geB leB
        rw [ord_fin hfR f0, ord_fin f0 hfR]
        rcases Int.lt_trichotomy (key R) (key 0) with h | h | h
        · rw [Int.compare_eq_lt.2 h, Int.compare_eq_gt.2 h]; rfl
        · rw [Int.compare_eq_eq.2 h, Int.compare_eq_eq.2 h.symm]; rfl
        · rw [Int.compare_eq_gt.2 h, Int.compare_eq_lt.2 h]; rfl
      rw [e', h, key_nn (show R < 2147483648 by omega), key_nn (show 0 < 2147483648 by omega)]
      simp
    unfold partB
    rw [hge, leB_fin hfR f1, key_nn (show R < 2147483648 by omega), key_nn (show 1065353216 < 2147483648 by omega)]
    simp; omega
  rw [e]
  unfold Format.sub
  rw [e1, ey]
  simp only [Datum.opposite, Datum.sum, Option.map_some, Format.write]
  by_cases hn0 : n = 0
  · subst hn0
    have hs : ∀ k, signed (!negB x) 0 k = 0 := fun k => by unfold signed; simp
    rw [hs, Int.add_zero]
    have hu0 : v = 0 := by rcases hv with h | h <;> omega
    subst hu0
    have : (-23 - min (-23 : Int) (((0 : Nat) : Int) - 149)).toNat = 126 := by omega
    rw [this]
    have hm2 : min (-23 : Int) (((0 : Nat) : Int) - 149) = ((0 : Nat) : Int) - 149 := by omega
    rw [hm2]
    have hsg : signed false 8388608 126 = ((8388608 <<< 126 : Nat) : Int) := rfl
    have hpos : ((8388608 <<< 126 : Nat) : Int) ≠ 0 := by decide
    rw [hsg, if_neg hpos]
    have hlt : decide (((8388608 <<< 126 : Nat) : Int) < 0) = false := by decide
    rw [hlt, Int.natAbs_natCast]
    have hx := near_exact (m := 8388608) (u := 126) (v := 0) (by omega) (by omega) (.inr (by omega)) (by omega) (by omega)
    rw [Nat.sub_zero] at hx
    rw [hx]
    exact key1 _ (by omega)
  · have hs : negB x = false := by
      cases h : negB x
      · rfl
      · have := r2 h; omega
    have hv126 : v ≤ 126 := by omega
    have hmin : min (-23 : Int) ((v : Int) - 149) = (v : Int) - 149 := by omega
    rw [hmin, hs]
    have t1 : (-23 - ((v : Int) - 149)).toNat = 126 - v := by omega
    have t2 : ((v : Int) - 149 - ((v : Int) - 149)).toNat = 0 := by omega
    rw [t1, t2]
    obtain ⟨M, hM⟩ : ∃ M, M = 8388608 <<< (126 - v) := ⟨_, rfl⟩
    have s1 : signed false 8388608 (126 - v) = (M : Int) := by unfold signed; rw [← hM]; rfl
    have s2 : signed (!false) n 0 = -(n : Int) := by unfold signed; simp
    rw [s1, s2]
    have hMn : n ≤ M := by
      rw [hM, Nat.shiftLeft_eq]
      by_cases h126 : v = 126
      · subst h126
        have : n ≤ 8388608 := by omega
        simpa using this
      · have : 2 ^ 1 ≤ 2 ^ (126 - v) := Nat.pow_le_pow_right (by omega) (by omega)
        have := Nat.mul_le_mul_left 8388608 this
        omega
    by_cases hz : (M : Int) + -(n : Int) = 0
    · rw [if_pos hz, hz, Int.natAbs_zero, near_zero, cleanB_word0']
      decide +kernel
    · rw [if_neg hz]
      have hlt : decide ((M : Int) + -(n : Int) < 0) = false := by simp; omega
      rw [hlt]
      have hab : ((M : Int) + -(n : Int)).natAbs = M - n := by omega
      rw [hab]
      have hle := near_le (M := M - n) (m := 8388608) (u := 126) (j := (v : Int) - 126) (by omega) (by omega) (.inr (by omega)) (by omega) (by
        have : (-((v : Int) - 126)).toNat = 126 - v := by omega
        rw [this, ← Nat.shiftLeft_eq, ← hM]
        omega)
      have hp : ((126 : Nat) : Int) - 149 + ((v : Int) - 126) = (v : Int) - 149 := by omega
      rw [hp] at hle
      exact key1 _ (by omega)
end Go.Proofs.YthlphmojldbpkaaGreat

/- Points with small whole parts: what symmetries make of them; the cell to which a symmetry takes a cell. No program. -/
namespace Go.Proofs.YthlphmojldbpkaaGreat

def fl (n : Int) : Nat := floatOfInt .f32 n
def ptI (size cell : Int) : Int × Int := (2 * (cell % size) + 1 - size, size - 1 - 2 * (cell / size))
def rI (p : Int × Int) : Int × Int := (-p.2, p.1)
def rIN : Nat → Int × Int → Int × Int
  | 0, p => p
  | n + 1, p => rI (rIN n p)
def aI (t : Int) (f : Bool) (p : Int × Int) : Int × Int := rIN t.toNat (p.1, if f then -p.2 else p.2)
def toCell (size : Int) (q : Int × Int) : Int := ((size - 1 - q.2) / 2) * size + (q.1 + size - 1) / 2
def cellI (size cell t : Int) (f : Bool) : Int := toCell size (aI t f (ptI size cell))
def okCell (size cell : Int) : Bool := inB size 1 8 && inB cell 0 (size * size - 1)

def Sm (b : Int) (p : Int × Int) : Prop := -b ≤ p.1 ∧ p.1 ≤ b ∧ -b ≤ p.2 ∧ p.2 ≤ b

theorem small_all : ∀ k : Nat, k < 17 → subB 0 (fl ((k : Int) - 8)) = fl (-((k : Int) - 8)) ∧ addB (fl ((k : Int) - 8)) 0 = fl ((k : Int) - 8) ∧ cleanB (fl ((k : Int) - 8)) = fl ((k : Int) - 8) ∧
    reachB (fl ((k : Int) - 8)) = true ∧ floatToIntVal .f32 (fl ((k : Int) - 8)) .i64 = some ((k : Int) - 8) := by decide +kernel
theorem small_at (n : Int) (h1 : -8 ≤ n) (h2 : n ≤ 8) : subB 0 (fl n) = fl (-n) ∧ addB (fl n) 0 = fl n ∧ cleanB (fl n) = fl n ∧ reachB (fl n) = true ∧ floatToIntVal .f32 (fl n) .i64 = some n := by
  have h := small_all (n + 8).toNat (by omega)
  have e : (((n + 8).toNat : Nat) : Int) - 8 = n := by omega
  rw [e] at h
  exact h

theorem rI_sm {b : Int} {p : Int × Int} (h : Sm b p) : Sm b (rI p) := by
  obtain ⟨a, c, d, e⟩ := h
  exact ⟨by show -b ≤ -p.2; omega, by show -p.2 ≤ b; omega, a, c⟩
theorem rIN_sm {b : Int} {p : Int × Int} (h : Sm b p) : ∀ n, Sm b (rIN n p)
  | 0 => h
  | n + 1 => rI_sm (rIN_sm h n)
theorem aI_sm {b : Int} {p : Int × Int} (h : Sm b p) (t : Int) (f : Bool) : Sm b (aI t f p) := by
  refine rIN_sm ?_ _
  obtain ⟨a, c, d, e⟩ := h
  cases f
  · exact ⟨a, c, d, e⟩
  · exact ⟨a, c, by show -b ≤ -p.2; omega, by show -p.2 ≤ b; omega⟩
def flP (p : Int × Int) : Nat × Nat := (fl p.1, fl p.2)
theorem mod_bd {size cell : Int} (h1 : 1 ≤ size) (h3 : 0 ≤ cell) : 0 ≤ cell % size ∧ cell % size < size ∧ 0 ≤ cell / size ∧ cell / size ≤ cell :=
  ⟨Int.emod_nonneg _ (by omega), Int.emod_lt_of_pos _ (by omega), Int.ediv_nonneg h3 (by omega), Int.ediv_le_self _ h3⟩
theorem okCell_bd {size cell : Int} (h : okCell size cell = true) : 1 ≤ size ∧ size ≤ 8 ∧ 0 ≤ cell ∧ cell < size * size ∧ cell ≤ 63 ∧ cell / size < size := by
  simp only [okCell, inB, Bool.and_eq_true, decide_eq_true_eq] at h
  obtain ⟨⟨h1, h2⟩, h3, h4⟩ := h
  have hb : size * size ≤ 8 * 8 := Int.mul_le_mul h2 h2 (by omega) (by omega)
  exact ⟨h1, h2, h3, by omega, by omega, (Int.ediv_lt_iff_lt_mul (by omega)).2 (by omega)⟩
theorem ptI_sm {size cell : Int} (h : okCell size cell = true) : Sm (size - 1) (ptI size cell) := by
  obtain ⟨h1, h2, h3, h4, h5, h6⟩ := okCell_bd h
  obtain ⟨m1, m2, m3, m4⟩ := mod_bd h1 h3
  refine ⟨?_, ?_, ?_, ?_⟩ <;> simp only [ptI] <;> omega
theorem Sm.mono {b c : Int} {p : Int × Int} (h : Sm b p) (hc : b ≤ c) : Sm c p := by
  obtain ⟨x, y, z, u⟩ := h
  exact ⟨by omega, by omega, by omega, by omega⟩
end Go.Proofs.YthlphmojldbpkaaGreat

/- Plain laws on tumbles: symmetries on keys; a tick keeps a tumble valid; ticks in parts. -/
namespace Go.Proofs.YthlphmojldbpkaaGreat
open Go.RowKit

def keyP (p : Pt) : Int × Int := (key p.1, key p.2)
def finP (p : Pt) : Prop := finB p.1 = true ∧ finB p.2 = true
theorem rotB_key {p : Pt} (h : finP p) : keyP (rotB p) = rI (keyP p) ∧ finP (rotB p) := by
  obtain ⟨h1, h2⟩ := h
  obtain ⟨a, b⟩ := neg_key h2
  exact ⟨by unfold rotB keyP rI; rw [a], b, h1⟩
theorem rotN_key {p : Pt} (h : finP p) : ∀ n, keyP (rotN n p) = rIN n (keyP p) ∧ finP (rotN n p)
  | 0 => ⟨rfl, h⟩
  | n + 1 => by
    obtain ⟨a, b⟩ := rotN_key h n
    obtain ⟨c, d⟩ := rotB_key b
    exact ⟨by show keyP (rotB (rotN n p)) = rI (rIN n (keyP p)); rw [c, a], d⟩
theorem flip_key {f : Bool} {y : Nat} (h : finB y = true) : key (flipB f y) = (if f then -key y else key y) ∧ finB (flipB f y) = true := by
  cases f
  · exact ⟨rfl, h⟩
  · exact neg_key h
theorem actI_key {t : Int} {f : Bool} {re im : Nat} (h : finP (re, im)) : keyP (actI t f re im) = aI t f (keyP (re, im)) ∧ finP (actI t f re im) := by
  obtain ⟨h1, h2⟩ := h
  obtain ⟨a, b⟩ := flip_key (f := f) h2
  obtain ⟨c, d1, d2⟩ := rotN_key (p := (re, flipB f im)) ⟨h1, b⟩ t.toNat
  obtain ⟨e1, e2⟩ := clean_key d1
  obtain ⟨g1, g2⟩ := clean_key d2
  refine ⟨?_, e2, g2⟩
  show (key _, key _) = _
  unfold actI
  dsimp only
  rw [e1, g1]
  show keyP (rotN t.toNat (re, flipB f im)) = _
  rw [c]
  unfold aI keyP
  dsimp only
  rw [a]
theorem point_fin {p : Pt} (h : pointB p.1 p.2 = true) : finP p := by
  unfold pointB at h
  rw [Bool.and_eq_true] at h
  exact ⟨reach_fin h.1, reach_fin h.2⟩
theorem point_key {p : Pt} (h : finP p) : pointB p.1 p.2 = true ↔ Sm 1166016512 (keyP p) := by
  unfold pointB
  rw [Bool.and_eq_true, reach_key h.1, reach_key h.2, decide_eq_true_eq, decide_eq_true_eq]
  unfold Sm keyP
  dsimp only
  omega
theorem actP_point (t : Int) (f : Bool) (re im : Nat) : pointB (actP t f re im).1 (actP t f re im).2 = true := by
  unfold actP
  split
  · rename_i h
    rw [Bool.and_eq_true] at h
    have hf := point_fin (p := (re, im)) h.2
    obtain ⟨a, b⟩ := actI_key (t := t) (f := f) hf
    rw [point_key b, a]
    exact aI_sm ((point_key hf).1 h.2) _ _
  · decide +kernel

theorem foldP_wedge {kind : Int} (hk : inB kind 0 3 = true) (z : Pt) : wedgeB kind (foldP kind z).1 = true := by
  have h0 : wedgeB kind (0, 0) = true := by
    obtain ⟨k1, k2⟩ := inB_true hk
    have hc : kind = 0 ∨ kind = 1 ∨ kind = 2 ∨ kind = 3 := by omega
    rcases hc with rfl | rfl | rfl | rfl <;> decide +kernel
  unfold foldP
  split
  · unfold foldG
    split
    · rename_i g hg
      have := List.find?_some hg
      exact this
    · exact h0
  · exact h0
theorem slow_point {loss : Nat} {s : Pt} (hl : partB loss = true) (hs : pointB s.1 s.2 = true) : pointB (slow loss s).1 (slow loss s).2 = true := by
  obtain ⟨f1, f2⟩ := point_fin hs
  obtain ⟨a1, a2⟩ := mul_key f1 (one_sub hl)
  obtain ⟨b1, b2⟩ := mul_key f2 (one_sub hl)
  unfold pointB at hs ⊢
  rw [Bool.and_eq_true, reach_key f1, reach_key f2, decide_eq_true_eq, decide_eq_true_eq] at hs
  unfold slow
  dsimp only
  rw [Bool.and_eq_true, reach_key a1, reach_key b1, decide_eq_true_eq, decide_eq_true_eq]
  omega
theorem goBd_ok {mir : Int} {gr : Pt} {loss : Nat} {b : Bd} (hm : inB mir 0 3 = true) (hl : partB loss = true) : okBd mir (goBd mir gr loss b).1 = true := by
  unfold goBd
  dsimp only
  split
  · unfold okBd
    rw [Bool.and_eq_true]
    exact ⟨foldP_wedge hm _, actP_point _ _ _ _⟩
  · unfold okBd
    rw [Bool.and_eq_true]
    exact ⟨foldP_wedge hm _, slow_point hl (actP_point _ _ _ _)⟩
theorem tumB_parts {mir : Int} {gr : Pt} {loss : Nat} {bs : List Bd} : tumB mir gr loss bs = true ↔ inB mir 0 3 = true ∧ pointB gr.1 gr.2 = true ∧ partB loss = true ∧ bs.length ≤ 8 ∧ bs.all (okBd mir) = true := by
  unfold tumB
  simp only [Bool.and_eq_true, decide_eq_true_eq]
theorem goL_tum {mir : Int} {gr : Pt} {loss : Nat} {bs : List Bd} (h : tumB mir gr loss bs = true) : tumB mir gr loss (goL mir gr loss bs) = true := by
  rw [tumB_parts] at h ⊢
  obtain ⟨h1, h2, h3, h4, h5⟩ := h
  refine ⟨h1, h2, h3, by simpa [goL] using h4, ?_⟩
  rw [List.all_eq_true]
  intro x hx
  unfold goL at hx
  obtain ⟨b, _, rfl⟩ := List.mem_map.1 hx
  exact goBd_ok h1 h3
theorem runUp_tum {mir : Int} {gr : Pt} {loss : Nat} {bs : List Bd} (h : tumB mir gr loss bs = true) : ∀ {k : Nat} {b : List Bd} {c : List Int}, runUp mir gr loss bs k = some (b, c) → tumB mir gr loss b = true
  | 0, b, c, e => by
    unfold runUp at e
    injection e with e
    injection e with e1 e2
    rw [← e1]; exact h
  | k + 1, b, c, e => by
    cases hk : runUp mir gr loss bs k with
    | none => unfold runUp at e; rw [hk] at e; cases e
    | some r =>
      obtain ⟨b', c'⟩ := r
      have ih := runUp_tum h hk
      unfold runUp at e
      rw [hk] at e
      simp only at e
      split at e
      · injection e with e
        injection e with e1 e2
        rw [← e1]; exact goL_tum ih
      · cases e
theorem zip_zeros {c : List Int} {n : Nat} (h : c.length = n) : List.zipWith (· + ·) c (List.replicate n (0 : Int)) = c := by
  apply List.ext_getElem
  · simp [h]
  · intro i h1 h2
    simp
theorem zip_addF {c c' : List Int} {f : List Bool} : List.zipWith addF (List.zipWith (· + ·) c c') f = List.zipWith (· + ·) c (List.zipWith addF c' f) := by
  apply List.ext_getElem
  · simp [Nat.min_assoc]
  · intro i h1 h2
    simp only [List.getElem_zipWith]
    unfold addF
    split <;> omega
/-- ticks in two parts -/
theorem runUp_add {mir : Int} {gr : Pt} {loss : Nat} {bs b : List Bd} {c : List Int} {j : Nat} (h : runUp mir gr loss bs j = some (b, c)) : ∀ k, runUp mir gr loss bs (j + k) = match runUp mir gr loss b k with
    | some (b', c') => some (b', List.zipWith (· + ·) c c')
    | none => none
  | 0 => by
    have hl := runUp_len h
    have e : runUp mir gr loss b 0 = some (b, List.replicate b.length 0) := rfl
    show runUp mir gr loss bs j = _
    rw [h, e]
    dsimp only
    rw [zip_zeros (by omega)]
  | k + 1 => by
    have ih := runUp_add h k
    cases hk : runUp mir gr loss b k with
    | none =>
      rw [hk] at ih
      have e1 : runUp mir gr loss bs (j + (k + 1)) = none := runUp_none ih 1
      have e2 : runUp mir gr loss b (k + 1) = none := runUp_none hk 1
      rw [e1, e2]
    | some r =>
      obtain ⟨b', c'⟩ := r
      rw [hk] at ih
      cases hg : allGo gr b'
      · have e1 : runUp mir gr loss bs (j + (k + 1)) = none := runUp_no ih hg
        have e2 : runUp mir gr loss b (k + 1) = none := runUp_no hk hg
        rw [e1, e2]
      · have e1 : runUp mir gr loss bs (j + (k + 1)) = _ := runUp_yes ih hg
        have e2 : runUp mir gr loss b (k + 1) = _ := runUp_yes hk hg
        rw [e1, e2]
        dsimp only
        rw [zip_addF]
end Go.Proofs.YthlphmojldbpkaaGreat

/- IsPoint, l1Wedge, FoldPoint: the specification's. -/
namespace Go.Proofs.YthlphmojldbpkaaGreat
open Go.RowKit
attribute [local go_sem] run_store_float run_store_complex

set_option maxHeartbeats 2000000 in
theorem specIsPoint_any (re im : Nat) (w : World) :
    Calls Tryz.prog 132 #[.complex .f32 re im] w fun e w' => e = .returned (.bool (pointB re im)) ∧ Dr w w' := by
  cases hf : finB re
  · have R := Lib.hid (show pointB re im = false by
      cases h : pointB re im
      · rfl
      · unfold pointB at h; rw [Bool.and_eq_true] at h; rw [reach_fin h.1] at hf; cases hf)
    go_enter Tryz.func132, Tryz.ntmps132
    go_wp2_with (go_at_call 127; refine (l1Single_any _ _).mono ?_; rintro e w' ⟨rfl, n, rfl⟩; simp only [hf])
    go_ret
    exact ⟨by rw [R.out]; rfl, Dr.drewN _ _⟩
  · cases hg : finB im
    · have R := Lib.hid (show pointB re im = false by
        cases h : pointB re im
        · rfl
        · unfold pointB at h; rw [Bool.and_eq_true] at h; rw [reach_fin h.2] at hg; cases hg)
      go_enter Tryz.func132, Tryz.ntmps132
      go_wp2_with fail
      refine (l1Single_any _ _).mono ?_
      rintro e w' ⟨rfl, n, rfl⟩
      simp only [hf]
      go_wp2_with fail
      refine (l1Single_any _ _).mono ?_
      rintro e w' ⟨rfl, m, rfl⟩
      simp only [hg]
      go_wp2
      go_ret
      exact ⟨by rw [R.out]; rfl, Dr.drewN _ _⟩
    · have r : pointB re im = ((geB re 3313500160 && leB re 1166016512) && (geB im 3313500160 && leB im 1166016512)) := rfl
      have e1 : (FloatKind.f32.format.order re 3313500160 == some .gt || FloatKind.f32.format.order re 3313500160 == some .eq) = geB re 3313500160 := rfl
      have e2 : (FloatKind.f32.format.order re 1166016512 == some .lt || FloatKind.f32.format.order re 1166016512 == some .eq) = leB re 1166016512 := rfl
      have e3 : (FloatKind.f32.format.order im 3313500160 == some .gt || FloatKind.f32.format.order im 3313500160 == some .eq) = geB im 3313500160 := rfl
      have e4 : (FloatKind.f32.format.order im 1166016512 == some .lt || FloatKind.f32.format.order im 1166016512 == some .eq) = leB im 1166016512 := rfl
      have R := Lib.hid r
      clear r
      cases h1 : geB re 3313500160
      · rw [h1] at e1 R
        go_enter Tryz.func132, Tryz.ntmps132
        go_wp2_with fail
        refine (l1Single_any _ _).mono ?_
        rintro e w' ⟨rfl, n, rfl⟩
        simp only [hf]
        go_wp2_with fail
        refine (l1Single_any _ _).mono ?_
        rintro e w' ⟨rfl, m, rfl⟩
        simp only [hg]
        go_wp2
        go_ret
        exact ⟨by rw [R.out]; rfl, Dr.drewN _ _⟩
      · cases h2 : leB re 1166016512
        · rw [h1] at e1 R
          rw [h2] at e2 R
          go_enter Tryz.func132, Tryz.ntmps132
          go_wp2_with fail
          refine (l1Single_any _ _).mono ?_
          rintro e w' ⟨rfl, n, rfl⟩
          simp only [hf]
          go_wp2_with fail
          refine (l1Single_any _ _).mono ?_
          rintro e w' ⟨rfl, m, rfl⟩
          simp only [hg]
          go_wp2
          go_ret
          exact ⟨by rw [R.out]; rfl, Dr.drewN _ _⟩
        · cases h3 : geB im 3313500160
          · rw [h1] at e1 R
            rw [h2] at e2 R
            rw [h3] at e3 R
            go_enter Tryz.func132, Tryz.ntmps132
            go_wp2_with fail
            refine (l1Single_any _ _).mono ?_
            rintro e w' ⟨rfl, n, rfl⟩
            simp only [hf]
            go_wp2_with fail
            refine (l1Single_any _ _).mono ?_
            rintro e w' ⟨rfl, m, rfl⟩
            simp only [hg]
            go_wp2
            go_ret
            exact ⟨by rw [R.out]; rfl, Dr.drewN _ _⟩
          · cases h4 : leB im 1166016512
            all_goals
              rw [h1] at e1 R
              rw [h2] at e2 R
              rw [h3] at e3 R
              rw [h4] at e4 R
              go_enter Tryz.func132, Tryz.ntmps132
              go_wp2_with fail
              refine (l1Single_any _ _).mono ?_
              rintro e w' ⟨rfl, n, rfl⟩
              simp only [hf]
              go_wp2_with fail
              refine (l1Single_any _ _).mono ?_
              rintro e w' ⟨rfl, m, rfl⟩
              simp only [hg]
              go_wp2
              go_ret
              exact ⟨by rw [R.out]; rfl, Dr.drewN _ _⟩

def sideS (kind : Int) (p : Pt) : Bool := if kind = 0 then true else if kind = 1 then geB p.2 0 else if kind = 2 then geB p.1 0 && geB p.2 0 else if kind = 3 then geB p.2 0 && leB p.2 p.1 else false
set_option maxHeartbeats 2000000 in
theorem l1Wedge_any (kind : Int) (p : Pt) (w : World) :
    Calls Tryz.prog 152 #[.int .i64 kind, .complex .f32 p.1 p.2] w fun e w' => e = .returned (.bool (sideS kind p)) ∧ w = w' := by
  by_cases k1 : kind = 1
  · subst k1
    go_enter Tryz.func152, Tryz.ntmps152
    go_wp2
    go_ret
    exact ⟨rfl, rfl⟩
  · by_cases k2 : kind = 2
    · subst k2
      cases h1 : geB p.1 0
      all_goals
        have S := Lib.hid (show sideS 2 p = (geB p.1 0 && geB p.2 0) from rfl)
        have e1 : (FloatKind.f32.format.order p.1 0 == some .gt || FloatKind.f32.format.order p.1 0 == some .eq) = geB p.1 0 := rfl
        rw [h1] at e1
        have H1 := Lib.hid h1
        clear h1
        go_enter Tryz.func152, Tryz.ntmps152
        go_wp2
        go_ret
        exact ⟨by rw [S.out, H1.out]; rfl, rfl⟩
    · by_cases k3 : kind = 3
      · subst k3
        cases h1 : geB p.2 0
        all_goals
          have S := Lib.hid (show sideS 3 p = (geB p.2 0 && leB p.2 p.1) from rfl)
          have e1 : (FloatKind.f32.format.order p.2 0 == some .gt || FloatKind.f32.format.order p.2 0 == some .eq) = geB p.2 0 := rfl
          rw [h1] at e1
          have H1 := Lib.hid h1
          clear h1
          go_enter Tryz.func152, Tryz.ntmps152
          go_wp2
          go_ret
          exact ⟨by rw [S.out, H1.out]; rfl, rfl⟩
      · by_cases k0 : kind = 0
        · subst k0
          go_enter Tryz.func152, Tryz.ntmps152
          go_wp2
          go_ret
          exact ⟨rfl, rfl⟩
        · have S := Lib.hid (show sideS kind p = false by simp [sideS, k0, k1, k2, k3])
          go_enter Tryz.func152, Tryz.ntmps152
          go_wp2
          go_ret
          have hk0 : (kind == 0) = false := by simpa using k0
          exact ⟨by rw [S.out]; show Ending.returned (.bool (kind == 0)) = _; rw [hk0], rfl⟩

def foldH (kind : Int) (z : Pt) (l : List (Int × Bool)) : Pt × (Int × Bool) × Bool := match l.find? (fun g => sideS kind (actS g.1 g.2 z.1 z.2)) with
  | some g => (actS g.1 g.2 z.1 z.2, g, true)
  | none => ((0, 0), (0, false), false)
def foldS (kind : Int) (z : Pt) : Pt × (Int × Bool) × Bool := if pointB z.1 z.2 then foldH kind z (symsL kind) else ((0, 0), (0, false), false)
theorem foldH_hit {kind : Int} {z : Pt} {l : List (Int × Bool)} {k : Nat} {g : Int × Bool} (hx : l[k]? = some g) (hall : ∀ (i : Nat) y, i < k → l[i]? = some y → sideS kind (actS y.1 y.2 z.1 z.2) = false) (h : sideS kind (actS g.1 g.2 z.1 z.2) = true) : foldH kind z l = (actS g.1 g.2 z.1 z.2, g, true) := by
  unfold foldH
  have : l.find? (fun g => sideS kind (actS g.1 g.2 z.1 z.2)) = some g := by
    obtain ⟨hk1, hk2⟩ := (List.getElem?_eq_some_iff.1 hx)
    rw [List.find?_eq_some_iff_getElem]
    exact ⟨h, k, hk1, hk2, fun j hj => by simpa using hall j _ hj (List.getElem?_eq_getElem (by omega))⟩
  rw [this]
theorem foldH_miss {kind : Int} {z : Pt} {l : List (Int × Bool)} (hall : ∀ (i : Nat) y, l[i]? = some y → sideS kind (actS y.1 y.2 z.1 z.2) = false) : foldH kind z l = ((0, 0), (0, false), false) := by
  unfold foldH
  have : l.find? (fun g => sideS kind (actS g.1 g.2 z.1 z.2)) = none := by
    rw [List.find?_eq_none]
    intro x hx
    obtain ⟨i, hi⟩ := List.getElem?_of_mem hx
    simp [hall i x hi]
  rw [this]
theorem symsL_in {kind : Int} : ∀ g ∈ symsL kind, inB g.1 0 3 = true := by
  intro g hg
  unfold symsL symsUp at hg
  obtain ⟨h1, _⟩ := List.mem_filter.1 hg
  obtain ⟨k, hk, rfl⟩ := List.mem_map.1 h1
  exact sym8_t k (by simpa using hk)

set_option maxRecDepth 100000 in
set_option maxHeartbeats 4000000 in
theorem specFoldPoint_any (kind : Int) (z : Pt) (w : World) :
    Calls Tryz.prog 134 #[.int .i64 kind, .complex .f32 z.1 z.2] w fun e w' => e = .returned (foldV (foldS kind z)) ∧ Below w.heap.size w w' := by
  cases h0 : pointB z.1 z.2
  · have R := Lib.hid (show foldS kind z = ((0, 0), (0, false), false) by unfold foldS; rw [h0]; rfl)
    go_enter Tryz.func134, Tryz.ntmps134
    go_wp2_with (go_at_call 132; refine (specIsPoint_any _ _ _).mono ?_; rintro e w' ⟨rfl, n, rfl⟩; simp only [h0])
    exact bodyPost_ret (v := foldV ((0, 0), (0, false), false)) (by simp [results, Tryz.results134, go_sem, foldV]) rfl ⟨by rw [R.out], by (repeat (first | with_reducible assumption | exact Below.refl _ _ | (refine Below.setCell ?_ (by first | exact Nat.le_refl _ | (simp; done) | omega | (simp; omega)) _) | (refine below_drewN ?_ _) | (refine Below.drew ?_) | (refine Below.alloc ?_ (by first | exact Nat.le_refl _ | (simp; done) | omega | (simp; omega)) _) | (refine then_ ?_ (by with_reducible assumption)) | assumption | (refine then_ ?_ (by assumption))))⟩
  · obtain ⟨l, hl⟩ : ∃ l, l = symsL kind := ⟨_, rfl⟩
    have h8 : l.length ≤ 8 := by rw [hl]; exact symsUp_len _ _
    have LIN := Lib.hid (show ∀ g ∈ l, inB g.1 0 3 = true by rw [hl]; exact symsL_in)
    have ks := fun w => specSymsOf_any kind w
    have R := Lib.hid (show foldS kind z = foldH kind z l by unfold foldS; rw [h0, hl]; rfl)
    rw [← hl] at ks
    have KS := Lib.hid ks
    clear ks hl
    go_enter Tryz.func134, Tryz.ntmps134
    go_wp2_with (go_at_call 132; refine (specIsPoint_any _ _ _).mono ?_; rintro e w' ⟨rfl, n, rfl⟩; simp only [h0])
    obtain ⟨W, hWe⟩ : ∃ W, W = (w.alloc (Obj.cells #[.int .i64 0, .bool false] 58)).drewN n := ⟨_, rfl⟩
    have hW : Below w.heap.size w W := by rw [hWe]; exact below_drewN (by (repeat (first | with_reducible assumption | exact Below.refl _ _ | (refine Below.setCell ?_ (by first | exact Nat.le_refl _ | (simp; done) | omega | (simp; omega)) _) | (refine below_drewN ?_ _) | (refine Below.drew ?_) | (refine Below.alloc ?_ (by first | exact Nat.le_refl _ | (simp; done) | omega | (simp; omega)) _) | (refine then_ ?_ (by with_reducible assumption)) | assumption | (refine then_ ?_ (by assumption))))) _
    have zW : w.heap.size < W.heap.size := by rw [hWe]; show _ < (w.alloc _).heap.size; simp
    have q0 : W.cell? ⟨w.heap.size, 0, none⟩ = some (.int .i64 0) := by rw [hWe]; show (w.alloc _).cell? _ = _; simp [go_sem]
    have q1 : W.cell? ⟨w.heap.size, 1, none⟩ = some (.bool false) := by rw [hWe]; show (w.alloc _).cell? _ = _; simp [go_sem]
    have f0 : W.frozen? ⟨w.heap.size, 0, none⟩ = false := by rw [hWe]; show (w.alloc _).frozen? _ = _; simp [go_sem]
    have f1 : W.frozen? ⟨w.heap.size, 1, none⟩ = false := by rw [hWe]; show (w.alloc _).frozen? _ = _; simp [go_sem]
    rw [← hWe]
    clear hWe
    refine (KS.out _).mono ?_
    rintro e w1 ⟨G, cG, rfl, ho1, hb1⟩
    have r1 := Rd.of_own symC_len rfl ho1
    have f0 := keepF q0 f0 hb1
    have f1 := keepF q1 f1 hb1
    have q0 := keepC q0 hb1
    have q1 := keepC q1 hb1
    have hW1 := then_ hW hb1
    have lw : w.heap.size < w1.heap.size := World.block_lt_of_cell? _ _ q0
    clear ho1 hb1 hW
    go_wp2_with fail
    go_loopw [17] (fun i wr => ∃ k : Nat, k ≤ l.length ∧ i = .int .i64 k ∧ (∀ (i : Nat) y, i < k → l[i]? = some y → sideS kind (actS y.1 y.2 z.1 z.2) = false) ∧ Below w1.heap.size w1 wr) (fun i _ => l.length - (intOf i).toNat)
    case atStart => exact ⟨0, Nat.zero_le _, rfl, fun i y h => by omega, Below.refl _ _⟩
    case round =>
      obtain ⟨k, hk, rfl, hall, hw⟩ := hrel
      have HALL := Lib.hid hall
      have f0 := keepF q0 f0 hw
      have f1 := keepF q1 f1 hw
      have q0 := keepC q0 hw
      have q1 := keepC q1 hw
      have hWr := then_ hW1 hw
      clear hall
      by_cases hlt : k < l.length
      · obtain ⟨b, off, t, f, rfl, hbl, hx, c0, c1⟩ := (r1.below hw).sym hlt
        have ht := LIN.out (t, f) (List.mem_of_getElem? hx)
        have HX := Lib.hid hx
        have hki : (k : Int) < (l.length : Int) := by omega
        have hk0 : (0 : Int) ≤ (k : Int) := by omega
        obtain ⟨q, hq⟩ : ∃ q, q = actS t f z.1 z.2 := ⟨_, rfl⟩
        have HQ := Lib.hid hq
        have ka := fun w => l1Act_any t f z.1 z.2 w ht
        rw [← hq] at ka
        have KA := Lib.hid ka
        clear hx ka hq ht
        go_wp2_with fail
        obtain ⟨V, hVe⟩ : ∃ V, V = wr.alloc (Obj.cells #[.int .i64 t, .bool f] 58) := ⟨_, rfl⟩
        have hV : Below wr.heap.size wr V := by rw [hVe]; (repeat (first | with_reducible assumption | exact Below.refl _ _ | (refine Below.setCell ?_ (by first | exact Nat.le_refl _ | (simp; done) | omega | (simp; omega)) _) | (refine below_drewN ?_ _) | (refine Below.drew ?_) | (refine Below.alloc ?_ (by first | exact Nat.le_refl _ | (simp; done) | omega | (simp; omega)) _) | (refine then_ ?_ (by with_reducible assumption)) | assumption | (refine then_ ?_ (by assumption))))
        have v0 : V.cell? ⟨wr.heap.size, 0, none⟩ = some (.int .i64 t) := by rw [hVe]; simp [go_sem]
        have v1 : V.cell? ⟨wr.heap.size, 1, none⟩ = some (.bool f) := by rw [hVe]; simp [go_sem]
        have hne : ¬ wr.heap.size = w.heap.size := by have := World.block_lt_of_cell? _ _ q0; dsimp only at this; omega
        have hne' : ¬ w.heap.size = wr.heap.size := fun e => hne e.symm
        rw [← hVe]
        clear hVe
        refine (KA.out _).mono ?_
        rintro e w2 ⟨rfl, hb2⟩
        have f0 := keepF (keepC q0 hV) (keepF q0 f0 hV) hb2
        have f1 := keepF (keepC q1 hV) (keepF q1 f1 hV) hb2
        have q0 := keepC (keepC q0 hV) hb2
        have q1 := keepC (keepC q1 hV) hb2
        have v0 := keepC v0 hb2
        have v1 := keepC v1 hb2
        have hB2 := then_ (then_ hw hV) hb2
        have hW2 := then_ hW1 hB2
        simp only [cxV]
        clear hV hb2 c0 c1
        go_wp2_with fail
        refine (l1Wedge_any kind q _).mono ?_
        cases hc : sideS kind q
        · rintro e w' ⟨rfl, rfl⟩
          have HC := Lib.hid hc
          clear hc
          go_wp2
          go_roundw
          case rel =>
            refine ⟨k + 1, by omega, by go_num, fun i y hi j1 => ?_, hB2⟩
            by_cases e : i = k
            · subst e
              rw [HX.out] at j1
              injection j1 with j1
              subst j1
              show sideS kind (actS t f z.1 z.2) = false
              rw [← HQ.out]
              exact HC.out
            · exact HALL.out i y (by omega) j1
          case measure => simp [intOf]; omega
        · rintro e w' ⟨rfl, rfl⟩
          have HF := Lib.hid (foldH_hit (z := z) HX.out HALL.out (show sideS kind (actS t f z.1 z.2) = true by rw [← HQ.out]; exact hc))
          clear hc
          go_wp2_with fail
          go_region_law (fail)
          all_goals
            go_wp2
            exact bodyPost_ret (v := foldV (q, (t, f), true)) (by simp [results, Tryz.results134, go_sem, foldV, *]) rfl ⟨by rw [R.out, HF.out, HQ.out], by (repeat (first | with_reducible assumption | exact Below.refl _ _ | (refine Below.setCell ?_ (by first | exact Nat.le_refl _ | (simp; done) | omega | (simp; omega)) _) | (refine below_drewN ?_ _) | (refine Below.drew ?_) | (refine Below.alloc ?_ (by first | exact Nat.le_refl _ | (simp; done) | omega | (simp; omega)) _) | (refine then_ ?_ (by with_reducible assumption)) | assumption | (refine then_ ?_ (by assumption))))⟩
      · obtain rfl : k = l.length := by omega
        have HF := Lib.hid (foldH_miss (z := z) (fun i y h1 => HALL.out i y (List.getElem?_eq_some_iff.1 h1).1 h1))
        go_wp2
        exact bodyPost_ret (v := foldV ((0, 0), (0, false), false)) (by simp [results, Tryz.results134, go_sem, foldV, *]) rfl ⟨by rw [R.out, HF.out], by (repeat (first | with_reducible assumption | exact Below.refl _ _ | (refine Below.setCell ?_ (by first | exact Nat.le_refl _ | (simp; done) | omega | (simp; omega)) _) | (refine below_drewN ?_ _) | (refine Below.drew ?_) | (refine Below.alloc ?_ (by first | exact Nat.le_refl _ | (simp; done) | omega | (simp; omega)) _) | (refine then_ ?_ (by with_reducible assumption)) | assumption | (refine then_ ?_ (by assumption))))⟩
end Go.Proofs.YthlphmojldbpkaaGreat

/- Clean words: a key has one clean word; sums with nothing. No program. -/
namespace Go.Proofs.YthlphmojldbpkaaGreat
open Ieee

/-- a finite word without a needless sign or bits above -/
def cw (x : Nat) : Prop := finB x = true ∧ x = mk (negB x) (rung x)
theorem mk_cw {s : Bool} {r : Nat} (h : r < 2139095040) : cw (mk s r) := by
  obtain ⟨h1, h2⟩ := mk_key (s := s) h
  refine ⟨h2, ?_⟩
  unfold mk
  by_cases h0 : r = 0
  · subst h0
    rw [if_pos rfl]
    decide
  · rw [if_neg h0]
    obtain ⟨w1, w2⟩ := word_rung (s := s) h
    rw [w1, w2, if_neg h0]
theorem rung_key (x : Nat) : rung x = (key x).natAbs := by unfold key; cases negB x <;> simp
theorem cw_ext {x y : Nat} (hx : cw x) (hy : cw y) (h : key x = key y) : x = y := by
  have hr : rung x = rung y := by rw [rung_key, rung_key, h]
  rw [hx.2, hy.2, hr]
  by_cases h0 : rung y = 0
  · unfold mk; rw [if_pos h0, if_pos h0]
  · have hs : negB x = negB y := by
      unfold key at h
      rw [hr] at h
      cases h1 : negB x <;> cases h2 : negB y <;> rw [h1, h2] at h <;> simp at h <;> first | rfl | omega
    rw [hs]
theorem cleanB_cw {x : Nat} (hx : finB x = true) (hw : x < 4294967296) : cw (cleanB x) := by
  unfold cleanB
  rw [hx]
  cases hz : zeroB x
  · simp only [Bool.not_false, Bool.and_true, if_true]
    refine ⟨hx, ?_⟩
    have h0 : ¬ rung x = 0 := by unfold zeroB at hz; simpa [rung] using hz
    unfold mk
    rw [if_neg h0]
    unfold Format.word
    rw [c_sw]
    unfold negB rung
    by_cases hb : x < 2147483648
    · have e : x / 2147483648 = 0 := Nat.div_eq_of_lt hb
      rw [e]
      simp
      omega
    · have e : x / 2147483648 = 1 := by omega
      rw [e]
      simp
      omega
  · simp only [Bool.not_true, Bool.and_false, Bool.false_eq_true, if_false]
    exact ⟨by decide, by decide⟩
theorem cw_lt {x : Nat} (h : cw x) : x < 4294967296 := by
  rw [h.2]
  have hf := fin_rung h.1
  unfold mk
  split
  · omega
  · unfold Format.word
    rw [c_sw]
    split <;> omega
theorem word_cw {s : Bool} {R : Nat} (h : R ≤ 2139095040) : cw (cleanB (single.word s R)) := by
  by_cases h1 : R = 2139095040
  · subst h1
    cases s
    · have : cleanB (single.word false 2139095040) = 0 := by decide
      rw [this]; exact ⟨by decide, by decide⟩
    · have : cleanB (single.word true 2139095040) = 0 := by decide
      rw [this]; exact ⟨by decide, by decide⟩
  · rw [clean_word (by omega)]
    exact mk_cw (by omega)
theorem neg_cw {y : Nat} (hy : finB y = true) : cw (subB 0 y) := by
  rw [neg_sub hy]
  exact mk_cw (fin_rung hy)

theorem add_zero {y : Nat} (hy : finB y = true) : addB y 0 = mk (negB y) (rung y) := by
  obtain ⟨m, u, ey, hm, hu, hr⟩ := read_rung hy
  have hf := fin_rung hy
  have e : addB y 0 = match single.add y 0 with | some r => cleanB r | none => 0 := rfl
  rw [e]
  unfold Format.add
  rw [read_zero, ey]
  simp only [Datum.sum, Option.map_some, Format.write]
  have hmin : min ((u : Int) - 149) (-149 : Int) = -149 := by omega
  rw [hmin]
  have t1 : ((u : Int) - 149 - -149).toNat = u := by omega
  rw [signed_zero, t1, Int.add_zero]
  by_cases h0 : m = 0
  · have hu0 : u = 0 := by rcases hu with h | h <;> omega
    have hr0 : rung y = 0 := by omega
    subst h0 hu0
    have hs : signed (negB y) 0 0 = 0 := by unfold signed; simp
    rw [hs, hr0]
    simp only [Int.natAbs_zero, near_zero, if_true]
    rw [clean_word (by omega)]
    simp [mk]
  · have hpos : 0 < m <<< u := by rw [Nat.shiftLeft_eq]; exact Nat.mul_pos (by omega) (Nat.two_pow_pos _)
    obtain ⟨M, hM⟩ : ∃ M, M = m <<< u := ⟨_, rfl⟩
    have hsv : ∀ s : Bool, signed s m u = if s then -(M : Int) else (M : Int) := fun s => by unfold signed; rw [← hM]
    rw [← hM] at hpos
    have hab : (signed (negB y) m u).natAbs = m <<< u := by rw [hsv, ← hM]; cases negB y <;> simp
    have hne : signed (negB y) m u ≠ 0 := by rw [hsv]; cases negB y <;> simp <;> omega
    have hsg : decide (signed (negB y) m u < 0) = negB y := by
      rw [hsv]
      cases negB y
      · simp
      · simp; omega
    rw [if_neg hne, hsg, hab, near_word]
    have hx := near_exact (m := m) (u := u) (v := 0) (by omega) hm hu (by omega) (Nat.zero_le _)
    rw [Nat.sub_zero] at hx
    have e149 : ((0 : Nat) : Int) - 149 = -149 := by omega
    rw [e149] at hx
    rw [hx, hr, clean_word hf]
    rfl
theorem add_key {y : Nat} (hy : finB y = true) : key (addB y 0) = key y ∧ finB (addB y 0) = true ∧ cw (addB y 0) := by
  rw [add_zero hy]
  obtain ⟨h1, h2⟩ := mk_key (s := negB y) (fin_rung hy)
  exact ⟨by rw [h1]; rfl, h2, mk_cw (fin_rung hy)⟩
theorem ge_le {x y : Nat} (hx : finB x = true) (hy : finB y = true) : geB x y = leB y x := by
  unfold geB leB
  rw [ord_fin hx hy, ord_fin hy hx]
  rcases Int.lt_trichotomy (key x) (key y) with h | h | h
  · rw [Int.compare_eq_lt.2 h, Int.compare_eq_gt.2 h]; rfl
  · rw [Int.compare_eq_eq.2 h, Int.compare_eq_eq.2 h.symm]; rfl
  · rw [Int.compare_eq_gt.2 h, Int.compare_eq_lt.2 h]; rfl
end Go.Proofs.YthlphmojldbpkaaGreat

/- FoldPoint of the specification: its place lies in the wedge. Plain. -/
namespace Go.Proofs.YthlphmojldbpkaaGreat
open Go.RowKit

theorem actS_key {t : Int} {f : Bool} {re im : Nat} (h : finP (re, im)) : keyP (actS t f re im) = aI t f (keyP (re, im)) ∧ finP (actS t f re im) := by
  obtain ⟨h1, h2⟩ := h
  obtain ⟨x1, x2, _⟩ := add_key h1
  obtain ⟨y1, y2, _⟩ := add_key h2
  obtain ⟨a, b⟩ := flip_key (f := f) y2
  obtain ⟨c, d⟩ := rotN_key (p := (addB re 0, flipB f (addB im 0))) ⟨x2, b⟩ t.toNat
  refine ⟨?_, d⟩
  unfold actS
  rw [c]
  unfold aI keyP
  dsimp only
  rw [a, x1, y1]
theorem sideS_eq {kind : Int} {p : Pt} (h : finP p) : sideS kind p = sideB kind p := by
  unfold sideS sideB
  rw [ge_le h.2 (show finB 0 = true by decide)]
end Go.Proofs.YthlphmojldbpkaaGreat

/- Sums by keys: a sum hangs on the keys of its parts alone, is clean, and changes its sign with them. No program. -/
namespace Go.Proofs.YthlphmojldbpkaaGreat
open Ieee

def mR (r : Nat) : Nat := if r < 8388608 then r else 8388608 + r % 8388608
def uR (r : Nat) : Nat := if r < 8388608 then 0 else r / 8388608 - 1
theorem read_key {x : Nat} (h : finB x = true) : single.read x = .number (negB x) (mR (rung x)) ((uR (rung x) : Int) - 149) := by
  obtain ⟨m, u, e, hm, hu, hr⟩ := read_rung h
  rw [e]
  have h1 : m = mR (rung x) ∧ u = uR (rung x) := by
    unfold mR uR
    rw [← hr]
    split
    · omega
    · omega
  rw [← h1.1, ← h1.2]
/-- the part of a sum that a key brings, at the rung e -/
def bring (k : Int) (e : Nat) : Int := if k < 0 then -((mR k.natAbs <<< (uR k.natAbs - e) : Nat) : Int) else ((mR k.natAbs <<< (uR k.natAbs - e) : Nat) : Int)
def lowU (a b : Int) : Nat := min (uR a.natAbs) (uR b.natAbs)
def allS (a b : Int) : Int := bring a (lowU a b) + bring b (lowU a b)
def addK (a b : Int) : Nat := if allS a b = 0 then 0 else cleanB (single.word (decide (allS a b < 0)) (single.nearest false (allS a b).natAbs ((lowU a b : Int) - 149)))
theorem bring_neg (k : Int) (e : Nat) : bring (-k) e = -bring k e := by
  unfold bring
  rw [Int.natAbs_neg]
  rcases Int.lt_trichotomy k 0 with h | h | h
  · rw [if_neg (by omega), if_pos h]; simp
  · subst h
    have h0 : mR 0 = 0 := by decide
    simp [h0]
  · rw [if_pos (by omega), if_neg (by omega)]
theorem key_neg {x : Nat} (h : key x < 0) : negB x = true := by
  unfold key at h
  cases hn : negB x
  · rw [hn] at h; simp at h; omega
  · rfl
theorem key_pos {x : Nat} (h : 0 < key x) : negB x = false := by
  unfold key at h
  cases hn : negB x
  · rfl
  · rw [hn] at h; simp at h; omega
theorem signed_bring (x e : Nat) : signed (negB x) (mR (rung x)) (uR (rung x) - e) = bring (key x) e := by
  unfold bring signed
  rw [← rung_key]
  rcases Int.lt_trichotomy (key x) 0 with h | h | h
  · rw [key_neg h]; simp [h]
  · have h0 : rung x = 0 := by rw [rung_key, h]; rfl
    have h1 : mR 0 = 0 := by decide
    rw [h0, h1, h]
    simp
  · rw [key_pos h]
    have : ¬ key x < 0 := by omega
    simp [this]
theorem add_keys {x y : Nat} (hx : finB x = true) (hy : finB y = true) : addB x y = addK (key x) (key y) := by
  have e : addB x y = match single.add x y with | some r => cleanB r | none => 0 := rfl
  rw [e]
  unfold Format.add
  rw [read_key hx, read_key hy]
  simp only [Datum.sum, Option.map_some, Format.write]
  have hl : lowU (key x) (key y) = min (uR (rung x)) (uR (rung y)) := by unfold lowU; rw [← rung_key, ← rung_key]
  have hmin : min ((uR (rung x) : Int) - 149) ((uR (rung y) : Int) - 149) = (lowU (key x) (key y) : Int) - 149 := by rw [hl]; omega
  rw [hmin]
  have t1 : ((uR (rung x) : Int) - 149 - ((lowU (key x) (key y) : Int) - 149)).toNat = uR (rung x) - lowU (key x) (key y) := by omega
  have t2 : ((uR (rung y) : Int) - 149 - ((lowU (key x) (key y) : Int) - 149)).toNat = uR (rung y) - lowU (key x) (key y) := by omega
  rw [t1, t2, signed_bring, signed_bring]
  have hs : bring (key x) (lowU (key x) (key y)) + bring (key y) (lowU (key x) (key y)) = allS (key x) (key y) := rfl
  rw [hs]
  unfold addK
  by_cases h0 : allS (key x) (key y) = 0
  · rw [if_pos h0, if_pos h0]
    simp only [h0, Int.natAbs_zero, near_zero]
    cases negB x <;> cases negB y <;> simp <;> decide
  · rw [if_neg h0, if_neg h0, near_word]
theorem lowU_neg (a b : Int) : lowU (-a) (-b) = lowU a b := by unfold lowU; rw [Int.natAbs_neg, Int.natAbs_neg]
theorem allS_neg (a b : Int) : allS (-a) (-b) = -allS a b := by unfold allS; rw [lowU_neg, bring_neg, bring_neg]; omega
theorem addK_cw (a b : Int) : cw (addK a b) := by
  unfold addK
  split
  · exact ⟨by decide, by decide⟩
  · exact word_cw (nearest_nn _ _)
theorem addK_neg (a b : Int) : key (addK (-a) (-b)) = -key (addK a b) := by
  unfold addK
  rw [allS_neg, lowU_neg]
  by_cases h0 : allS a b = 0
  · rw [if_pos h0, if_pos (by omega)]; decide
  · rw [if_neg h0, if_neg (by omega), Int.natAbs_neg]
    obtain ⟨R, hR⟩ : ∃ R, R = single.nearest false (allS a b).natAbs ((lowU a b : Int) - 149) := ⟨_, rfl⟩
    have hb : R ≤ 2139095040 := by rw [hR]; exact nearest_nn _ _
    rw [← hR]
    by_cases h1 : R = 2139095040
    · rw [h1]
      have a1 : cleanB (single.word true 2139095040) = 0 := by decide
      have a2 : cleanB (single.word false 2139095040) = 0 := by decide
      have : ∀ s : Bool, key (cleanB (single.word s 2139095040)) = 0 := by intro s; cases s <;> decide
      rw [this, this]; rfl
    · have hc : ∀ s : Bool, cleanB (single.word s R) = mk s R := fun s => by rw [clean_word (by omega)]; rfl
      rw [hc, hc, (mk_key (by omega)).1, (mk_key (by omega)).1]
      rcases Int.lt_trichotomy (allS a b) 0 with h | h | h
      · have d1 : decide (-allS a b < 0) = false := by simp; omega
        have d2 : decide (allS a b < 0) = true := by simp [h]
        rw [d1, d2]; simp
      · exact absurd h h0
      · have d1 : decide (-allS a b < 0) = true := by simp; omega
        have d2 : decide (allS a b < 0) = false := by simp; omega
        rw [d1, d2]; simp
theorem addB_cw {x y : Nat} (hx : finB x = true) (hy : finB y = true) : cw (addB x y) := by rw [add_keys hx hy]; exact addK_cw _ _
end Go.Proofs.YthlphmojldbpkaaGreat

/- Plain laws on tumbles, by keys: sums and symmetries, the fold of both versions, one bead's tick. -/
namespace Go.Proofs.YthlphmojldbpkaaGreat
open Go.RowKit

def cwP (p : Pt) : Prop := cw p.1 ∧ cw p.2
theorem cwP_fin {p : Pt} (h : cwP p) : finP p := ⟨h.1.1, h.2.1⟩
theorem cwP_ext {p q : Pt} (hp : cwP p) (hq : cwP q) (h : keyP p = keyP q) : p = q := by
  unfold keyP at h
  injection h with h1 h2
  exact Prod.ext (cw_ext hp.1 hq.1 h1) (cw_ext hp.2 hq.2 h2)
theorem plus_cw {p q : Pt} (hp : finP p) (hq : finP q) : cwP (plusP p q) := ⟨addB_cw hp.1 hq.1, addB_cw hp.2 hq.2⟩
def plusZ (a b : Int × Int) : Int × Int := (key (addK a.1 b.1), key (addK a.2 b.2))
theorem plus_keys {p q : Pt} (hp : finP p) (hq : finP q) : keyP (plusP p q) = plusZ (keyP p) (keyP q) := by
  unfold keyP plusP plusZ
  dsimp only
  rw [add_keys hp.1 hq.1, add_keys hp.2 hq.2]
theorem plusZ_rI (a b : Int × Int) : plusZ (rI a) (rI b) = rI (plusZ a b) := by
  unfold plusZ rI
  dsimp only
  rw [addK_neg]
theorem plusZ_rIN (a b : Int × Int) : ∀ n, plusZ (rIN n a) (rIN n b) = rIN n (plusZ a b)
  | 0 => rfl
  | n + 1 => by show plusZ (rI (rIN n a)) (rI (rIN n b)) = rI (rIN n _); rw [plusZ_rI, plusZ_rIN a b n]
theorem plusZ_aI (t : Int) (f : Bool) (a b : Int × Int) : plusZ (aI t f a) (aI t f b) = aI t f (plusZ a b) := by
  unfold aI
  rw [plusZ_rIN]
  cases f
  · rfl
  · unfold plusZ; simp only [if_true]; rw [addK_neg]
theorem rotB_cw {p : Pt} (h : cwP p) : cwP (rotB p) := ⟨neg_cw h.2.1, h.1⟩
theorem rotN_cw {p : Pt} (h : cwP p) : ∀ n, cwP (rotN n p)
  | 0 => h
  | n + 1 => rotB_cw (rotN_cw h n)
theorem flip_cw {f : Bool} {y : Nat} (h : cw y) : cw (flipB f y) := by
  cases f
  · exact h
  · exact neg_cw h.1
theorem actI_cw {t : Int} {f : Bool} {re im : Nat} (h : cwP (re, im)) : cwP (actI t f re im) := by
  have hr := rotN_cw (p := (re, flipB f im)) ⟨h.1, flip_cw h.2⟩ t.toNat
  exact ⟨cleanB_cw hr.1.1 (cw_lt hr.1), cleanB_cw hr.2.1 (cw_lt hr.2)⟩
theorem actS_cw {t : Int} {f : Bool} {re im : Nat} (h : finP (re, im)) : cwP (actS t f re im) :=
  rotN_cw (p := (addB re 0, flipB f (addB im 0))) ⟨(add_key h.1).2.2, flip_cw (add_key h.2).2.2⟩ t.toNat
theorem actS_actI {t : Int} {f : Bool} {re im : Nat} (h : cwP (re, im)) : actS t f re im = actI t f re im :=
  cwP_ext (actS_cw (cwP_fin h)) (actI_cw h) (by rw [(actS_key (cwP_fin h)).1, (actI_key (cwP_fin h)).1])
theorem actP_yes {t : Int} {f : Bool} {re im : Nat} (ht : inB t 0 3 = true) (h : pointB re im = true) : actP t f re im = actI t f re im := by
  unfold actP
  rw [ht, h]; rfl

/-- the wedge on integers -/
def sideI (kind : Int) (p : Int × Int) : Bool := if kind = 0 then true else if kind = 1 then decide (0 ≤ p.2) else if kind = 2 then decide (0 ≤ p.1) && decide (0 ≤ p.2) else if kind = 3 then decide (0 ≤ p.2) && decide (p.2 ≤ p.1) else false
theorem f0 : finB 0 = true := by decide
theorem k0 : key 0 = 0 := by decide
theorem sideB_key {kind : Int} {p : Pt} (h : finP p) : sideB kind p = sideI kind (keyP p) := by
  unfold sideB sideI keyP
  rw [ge_le h.1 f0, ge_le h.2 f0, leB_fin f0 h.2, leB_fin h.2 h.1, leB_fin f0 h.1, k0]
theorem syms0 : symsL 0 = [(0, false)] := by decide
theorem syms1 : symsL 1 = [(0, false), (0, true)] := by decide
theorem syms2 : symsL 2 = [(0, false), (2, false), (0, true), (2, true)] := by decide
theorem syms3 : symsL 3 = [(0, false), (1, false), (2, false), (3, false), (0, true), (1, true), (2, true), (3, true)] := by decide
theorem kinds {kind : Int} (hk : inB kind 0 3 = true) : kind = 0 ∨ kind = 1 ∨ kind = 2 ∨ kind = 3 := by
  obtain ⟨k1, k2⟩ := inB_true hk
  omega
theorem a00 (x y : Int) : aI 0 false (x, y) = (x, y) := rfl
theorem a10 (x y : Int) : aI 1 false (x, y) = (-y, x) := rfl
theorem a20 (x y : Int) : aI 2 false (x, y) = (-x, -y) := rfl
theorem a30 (x y : Int) : aI 3 false (x, y) = (-(-y), -x) := rfl
theorem a01 (x y : Int) : aI 0 true (x, y) = (x, -y) := rfl
theorem a11 (x y : Int) : aI 1 true (x, y) = (-(-y), x) := rfl
theorem a21 (x y : Int) : aI 2 true (x, y) = (-x, -(-y)) := rfl
theorem a31 (x y : Int) : aI 3 true (x, y) = (-(-(-y)), -x) := rfl
theorem side1 {a b : Int} (h : 0 ≤ b) : sideI 1 (a, b) = true := by simp [sideI, h]
theorem side2 {a b : Int} (h : 0 ≤ a) (h2 : 0 ≤ b) : sideI 2 (a, b) = true := by simp [sideI, h, h2]
theorem side3 {a b : Int} (h : 0 ≤ b) (h2 : b ≤ a) : sideI 3 (a, b) = true := by simp [sideI, h, h2]
theorem hitI {kind : Int} (hk : inB kind 0 3 = true) (p : Int × Int) : ∃ g ∈ symsL kind, sideI kind (aI g.1 g.2 p) = true := by
  obtain ⟨x, y⟩ := p
  rcases kinds hk with rfl | rfl | rfl | rfl
  · exact ⟨(0, false), by rw [syms0]; decide, rfl⟩
  · rw [syms1]
    by_cases h : 0 ≤ y
    · exact ⟨(0, false), by decide, side1 (a := x) (b := y) h⟩
    · exact ⟨(0, true), by decide, side1 (a := x) (b := -y) (by omega)⟩
  · rw [syms2]
    by_cases h : 0 ≤ y <;> by_cases h2 : 0 ≤ x
    · exact ⟨(0, false), by decide, side2 (a := x) (b := y) (by omega) (by omega)⟩
    · exact ⟨(2, true), by decide, side2 (a := -x) (b := -(-y)) (by omega) (by omega)⟩
    · exact ⟨(0, true), by decide, side2 (a := x) (b := -y) (by omega) (by omega)⟩
    · exact ⟨(2, false), by decide, side2 (a := -x) (b := -y) (by omega) (by omega)⟩
  · rw [syms3]
    by_cases h : 0 ≤ y <;> by_cases h2 : 0 ≤ x
    · by_cases h3 : y ≤ x
      · exact ⟨(0, false), by decide, side3 (a := x) (b := y) (by omega) (by omega)⟩
      · exact ⟨(1, true), by decide, side3 (a := -(-y)) (b := x) (by omega) (by omega)⟩
    · by_cases h3 : y ≤ -x
      · exact ⟨(2, true), by decide, side3 (a := -x) (b := -(-y)) (by omega) (by omega)⟩
      · exact ⟨(3, false), by decide, side3 (a := -(-y)) (b := -x) (by omega) (by omega)⟩
    · by_cases h3 : -y ≤ x
      · exact ⟨(0, true), by decide, side3 (a := x) (b := -y) (by omega) (by omega)⟩
      · exact ⟨(1, false), by decide, side3 (a := -y) (b := x) (by omega) (by omega)⟩
    · by_cases h3 : -y ≤ -x
      · exact ⟨(2, false), by decide, side3 (a := -x) (b := -y) (by omega) (by omega)⟩
      · exact ⟨(3, true), by decide, side3 (a := -(-(-y))) (b := -x) (by omega) (by omega)⟩
theorem wedge_key {kind t : Int} {f : Bool} {z : Pt} (ht : inB t 0 3 = true) (h : pointB z.1 z.2 = true) : wedgeB kind (actP t f z.1 z.2) = sideI kind (aI t f (keyP z)) := by
  obtain ⟨a, b⟩ := actI_key (t := t) (f := f) (re := z.1) (im := z.2) (point_fin h)
  unfold wedgeB
  rw [actP_point, Bool.true_and, actP_yes ht h, sideB_key b, a]
theorem sideS_key {kind t : Int} {f : Bool} {z : Pt} (h : pointB z.1 z.2 = true) : sideS kind (actS t f z.1 z.2) = sideI kind (aI t f (keyP z)) := by
  obtain ⟨a, b⟩ := actS_key (t := t) (f := f) (re := z.1) (im := z.2) (point_fin h)
  rw [sideS_eq b, sideB_key b, a]
/-- the fold of a point: the first symmetry that takes it into the wedge -/
def firstG (kind : Int) (p : Int × Int) : Option (Int × Bool) := (symsL kind).find? (fun g => sideI kind (aI g.1 g.2 p))
theorem firstG_some {kind : Int} (hk : inB kind 0 3 = true) (p : Int × Int) : ∃ g ∈ symsL kind, firstG kind p = some g ∧ sideI kind (aI g.1 g.2 p) = true := by
  obtain ⟨g, hg, hs⟩ := hitI hk p
  cases h : firstG kind p with
  | none =>
    have := List.find?_eq_none.1 h g hg
    rw [hs] at this; simp at this
  | some g' =>
    exact ⟨g', List.mem_of_find?_eq_some h, rfl, List.find?_some (p := fun g : Int × Bool => sideI kind (aI g.1 g.2 p)) h⟩
theorem find_congr {α : Type} {p q : α → Bool} : ∀ {l : List α}, (∀ x ∈ l, p x = q x) → l.find? p = l.find? q
  | [], _ => rfl
  | x :: l, h => by
    rw [List.find?_cons, List.find?_cons, h x (List.mem_cons_self ..), find_congr (fun y hy => h y (List.mem_cons_of_mem _ hy))]
theorem foldP_g {kind : Int} {z : Pt} {g : Int × Bool} (h : pointB z.1 z.2 = true) (hg : firstG kind (keyP z) = some g) : foldP kind z = (actP g.1 g.2 z.1 z.2, g, true) := by
  unfold foldP foldG
  rw [h, if_pos rfl]
  have : (symsL kind).find? (fun g => wedgeB kind (actP g.1 g.2 z.1 z.2)) = some g := by
    rw [← hg]
    exact find_congr (fun g hg => wedge_key (symsL_in g hg) h)
  rw [this]
theorem foldS_g {kind : Int} {z : Pt} {g : Int × Bool} (h : pointB z.1 z.2 = true) (hg : firstG kind (keyP z) = some g) : foldS kind z = (actS g.1 g.2 z.1 z.2, g, true) := by
  unfold foldS foldH
  rw [h, if_pos rfl]
  have : (symsL kind).find? (fun g => sideS kind (actS g.1 g.2 z.1 z.2)) = some g := by
    rw [← hg]
    exact find_congr (fun g hg => sideS_key h)
  rw [this]
theorem foldP_no {kind : Int} {z : Pt} (h : pointB z.1 z.2 = false) : foldP kind z = ((0, 0), (0, false), false) := by unfold foldP; rw [h]; rfl
theorem foldS_no {kind : Int} {z : Pt} (h : pointB z.1 z.2 = false) : foldS kind z = ((0, 0), (0, false), false) := by unfold foldS; rw [h]; rfl
/-- both versions fold a clean point alike, and know when it is possible -/
theorem fold_eq {kind : Int} {z : Pt} (hk : inB kind 0 3 = true) (hz : cwP z) : foldS kind z = foldP kind z ∧ (foldP kind z).2.2 = pointB z.1 z.2 ∧ inB (foldP kind z).2.1.1 0 3 = true := by
  cases h : pointB z.1 z.2
  · rw [foldS_no h, foldP_no h]; exact ⟨rfl, rfl, by decide⟩
  · obtain ⟨g, hm, hg, _⟩ := firstG_some hk (keyP z)
    rw [foldS_g h hg, foldP_g h hg, actP_yes (symsL_in g hm) h]
    refine ⟨?_, rfl, symsL_in g hm⟩
    rw [actS_actI (show cwP (z.1, z.2) from hz)]
end Go.Proofs.YthlphmojldbpkaaGreat

/- Differences and products by keys. No program. -/
namespace Go.Proofs.YthlphmojldbpkaaGreat
open Ieee

theorem allS_comm (a b : Int) : allS a b = allS b a := by
  unfold allS lowU
  rw [Nat.min_comm, Int.add_comm]
theorem addK_comm (a b : Int) : addK a b = addK b a := by
  unfold addK
  rw [allS_comm]
  unfold lowU
  rw [Nat.min_comm]
theorem signed_not (s : Bool) (m k : Nat) : signed (!s) m k = -signed s m k := by
  unfold signed
  cases s <;> simp
theorem sub_keys {x y : Nat} (hx : finB x = true) (hy : finB y = true) : subB x y = addK (key x) (-(key y)) := by
  have e : subB x y = match single.sub x y with | some r => cleanB r | none => 0 := rfl
  rw [e]
  unfold Format.sub
  rw [read_key hx, read_key hy]
  simp only [Datum.opposite, Datum.sum, Option.map_some, Format.write]
  have hl : lowU (key x) (-(key y)) = min (uR (rung x)) (uR (rung y)) := by unfold lowU; rw [Int.natAbs_neg, ← rung_key, ← rung_key]
  have hmin : min ((uR (rung x) : Int) - 149) ((uR (rung y) : Int) - 149) = (lowU (key x) (-(key y)) : Int) - 149 := by rw [hl]; omega
  rw [hmin]
  have t1 : ((uR (rung x) : Int) - 149 - ((lowU (key x) (-(key y)) : Int) - 149)).toNat = uR (rung x) - lowU (key x) (-(key y)) := by omega
  have t2 : ((uR (rung y) : Int) - 149 - ((lowU (key x) (-(key y)) : Int) - 149)).toNat = uR (rung y) - lowU (key x) (-(key y)) := by omega
  rw [t1, t2, signed_not, signed_bring, signed_bring, ← bring_neg]
  have hs : bring (key x) (lowU (key x) (-(key y))) + bring (-(key y)) (lowU (key x) (-(key y))) = allS (key x) (-(key y)) := rfl
  rw [hs]
  unfold addK
  by_cases h0 : allS (key x) (-(key y)) = 0
  · rw [if_pos h0, if_pos h0]
    simp only [h0, Int.natAbs_zero, near_zero]
    cases negB x <;> cases negB y <;> simp <;> decide
  · rw [if_neg h0, if_neg h0, near_word]
/-- a product by keys -/
def mulK (a b : Int) : Nat := if mR a.natAbs * mR b.natAbs = 0 then 0 else cleanB (single.word (decide (a < 0) != decide (b < 0)) (single.nearest false (mR a.natAbs * mR b.natAbs) (((uR a.natAbs : Int) - 149) + ((uR b.natAbs : Int) - 149))))
theorem neg_sign {x : Nat} (h : mR (rung x) ≠ 0) : negB x = decide (key x < 0) := by
  have hr : rung x ≠ 0 := fun e => h (by rw [e]; decide)
  unfold key
  cases negB x
  · simp
  · simp; omega
theorem mul_keys {x y : Nat} (hx : finB x = true) (hy : finB y = true) : mulB x y = mulK (key x) (key y) := by
  have e : mulB x y = match single.mul x y with | some r => cleanB r | none => 0 := rfl
  rw [e]
  unfold Format.mul
  rw [read_key hx, read_key hy]
  simp only [Datum.product, Option.map_some, Format.write]
  unfold mulK
  rw [← rung_key, ← rung_key]
  by_cases h0 : mR (rung x) * mR (rung y) = 0
  · rw [if_pos h0, h0, near_zero]
    cases negB x <;> cases negB y <;> decide
  · rw [if_neg h0, near_word, neg_sign (fun e => h0 (by rw [e, Nat.zero_mul])), neg_sign (fun e => h0 (by rw [e, Nat.mul_zero]))]
theorem cleanW {R : Nat} (hb : R ≤ 2139095040) (s : Bool) : key (cleanB (single.word (!s) R)) = -key (cleanB (single.word s R)) := by
  by_cases h1 : R = 2139095040
  · rw [h1]
    have : ∀ s : Bool, key (cleanB (single.word s 2139095040)) = 0 := by intro s; cases s <;> decide
    rw [this, this]; rfl
  · have hc : ∀ s : Bool, cleanB (single.word s R) = mk s R := fun s => by rw [clean_word (by omega)]; rfl
    rw [hc, hc, (mk_key (by omega)).1, (mk_key (by omega)).1]
    cases s <;> simp
theorem mulK_neg (a b : Int) : key (mulK (-a) b) = -key (mulK a b) := by
  unfold mulK
  rw [Int.natAbs_neg]
  by_cases h0 : mR a.natAbs * mR b.natAbs = 0
  · rw [if_pos h0, if_pos h0]; decide
  · rw [if_neg h0, if_neg h0]
    have ha : a ≠ 0 := fun e => h0 (by rw [e, show mR (0 : Int).natAbs = 0 by decide, Nat.zero_mul])
    have hd : decide (-a < 0) = !decide (a < 0) := by
      rcases Int.lt_trichotomy a 0 with h | h | h
      · simp [h]; omega
      · exact absurd h ha
      · have h1 : ¬ a < 0 := by omega
        have h2 : -a < 0 := by omega
        rw [decide_eq_true h2, decide_eq_false h1]
        rfl
    rw [hd]
    have : ((!decide (a < 0)) != decide (b < 0)) = !(decide (a < 0) != decide (b < 0)) := by cases decide (a < 0) <;> cases decide (b < 0) <;> rfl
    rw [this, cleanW (nearest_nn _ _)]
theorem mulK_comm (a b : Int) : mulK a b = mulK b a := by
  unfold mulK
  rw [Nat.mul_comm, Int.add_comm ((uR a.natAbs : Int) - 149)]
  have : (decide (a < 0) != decide (b < 0)) = (decide (b < 0) != decide (a < 0)) := by cases decide (a < 0) <;> cases decide (b < 0) <;> rfl
  rw [this]
theorem mulK_neg' (a b : Int) : key (mulK a (-b)) = -key (mulK a b) := by rw [mulK_comm, mulK_neg, mulK_comm]
theorem mulK_cw (a b : Int) : cw (mulK a b) := by
  unfold mulK
  split
  · exact ⟨by decide, by decide⟩
  · exact word_cw (nearest_nn _ _)
theorem mulB_cw {x y : Nat} (hx : finB x = true) (hy : finB y = true) : cw (mulB x y) := by rw [mul_keys hx hy]; exact mulK_cw _ _
theorem subB_cw {x y : Nat} (hx : finB x = true) (hy : finB y = true) : cw (subB x y) := by rw [sub_keys hx hy]; exact addK_cw _ _
end Go.Proofs.YthlphmojldbpkaaGreat

/- Sides of points and shards, by keys: plain. -/
namespace Go.Proofs.YthlphmojldbpkaaGreat
open Go.RowKit

abbrev Sh := Pt × Pt × Pt × Col × Nat
def shC (s : Sh) : List Value := [.complex .f32 s.1.1 s.1.2, .complex .f32 s.2.1.1 s.2.1.2, .complex .f32 s.2.2.1.1 s.2.2.1.2, .float .f32 s.2.2.2.1.1, .float .f32 s.2.2.2.1.2.1, .float .f32 s.2.2.2.1.2.2, .float .f32 s.2.2.2.2]
theorem shC_len (s : Sh) : (shC s).length = 7 := rfl
def okSh (s : Sh) : Bool := pointB s.1.1 s.1.2 && (pointB s.2.1.1 s.2.1.2 && (pointB s.2.2.1.1 s.2.2.1.2 && (colB s.2.2.2.1 && partB s.2.2.2.2)))
theorem okSh_parts {s : Sh} (h : okSh s = true) : pointB s.1.1 s.1.2 = true ∧ pointB s.2.1.1 s.2.1.2 = true ∧ pointB s.2.2.1.1 s.2.2.1.2 = true ∧ colB s.2.2.2.1 = true ∧ partB s.2.2.2.2 = true := by
  unfold okSh at h
  simp only [Bool.and_eq_true] at h
  exact h
def lessP (a b : Pt) : Pt := (subB a.1 b.1, subB a.2 b.2)
/-- the side of p beside the way from a to b -/
def sideN (a b p : Pt) : Nat := subB (mulB (lessP b a).1 (lessP p a).2) (mulB (lessP b a).2 (lessP p a).1)
def liesB (s : Sh) (p : Pt) : Bool :=
  (geB (sideN s.1 s.2.1 p) 0 && (geB (sideN s.2.1 s.2.2.1 p) 0 && geB (sideN s.2.2.1 s.1 p) 0)) || (leB (sideN s.1 s.2.1 p) 0 && (leB (sideN s.2.1 s.2.2.1 p) 0 && leB (sideN s.2.2.1 s.1 p) 0))
/-! ### by keys -/
def lessZ (a b : Int × Int) : Int × Int := (key (addK a.1 (-b.1)), key (addK a.2 (-b.2)))
def sideZ (a b p : Int × Int) : Int := key (addK (key (mulK (lessZ b a).1 (lessZ p a).2)) (-(key (mulK (lessZ b a).2 (lessZ p a).1))))
theorem less_keys {a b : Pt} (ha : finP a) (hb : finP b) : keyP (lessP a b) = lessZ (keyP a) (keyP b) ∧ finP (lessP a b) := by
  refine ⟨?_, (subB_cw ha.1 hb.1).1, (subB_cw ha.2 hb.2).1⟩
  unfold keyP lessP lessZ
  dsimp only
  rw [sub_keys ha.1 hb.1, sub_keys ha.2 hb.2]
theorem side_keys {a b p : Pt} (ha : finP a) (hb : finP b) (hp : finP p) : key (sideN a b p) = sideZ (keyP a) (keyP b) (keyP p) ∧ finB (sideN a b p) = true := by
  obtain ⟨d1, d2⟩ := less_keys hb ha
  obtain ⟨e1, e2⟩ := less_keys hp ha
  have m1 := mulB_cw d2.1 e2.2
  have m2 := mulB_cw d2.2 e2.1
  unfold sideN
  refine ⟨?_, (subB_cw m1.1 m2.1).1⟩
  unfold sideZ
  rw [sub_keys m1.1 m2.1, mul_keys d2.1 e2.2, mul_keys d2.2 e2.1, ← d1, ← e1]
  rfl
theorem lessZ_rI (a b : Int × Int) : lessZ (rI a) (rI b) = rI (lessZ a b) := by
  unfold lessZ rI
  dsimp only
  rw [addK_neg]
theorem sideZ_rI (a b p : Int × Int) : sideZ (rI a) (rI b) (rI p) = sideZ a b p := by
  unfold sideZ
  rw [lessZ_rI, lessZ_rI]
  unfold rI
  dsimp only
  rw [mulK_neg, mulK_neg', Int.neg_neg, addK_comm]
theorem sideZ_rIN (a b p : Int × Int) : ∀ n, sideZ (rIN n a) (rIN n b) (rIN n p) = sideZ a b p
  | 0 => rfl
  | n + 1 => by show sideZ (rI (rIN n a)) (rI (rIN n b)) (rI (rIN n p)) = _; rw [sideZ_rI, sideZ_rIN a b p n]
theorem lessZ_flip (a b : Int × Int) : lessZ (a.1, -a.2) (b.1, -b.2) = ((lessZ a b).1, -(lessZ a b).2) := by
  unfold lessZ
  dsimp only
  rw [addK_neg]
theorem sideZ_flip (a b p : Int × Int) : sideZ (a.1, -a.2) (b.1, -b.2) (p.1, -p.2) = -sideZ a b p := by
  unfold sideZ
  rw [lessZ_flip, lessZ_flip]
  dsimp only
  rw [mulK_neg', mulK_neg, ← addK_neg]
theorem sideZ_aI (t : Int) (f : Bool) (a b p : Int × Int) : sideZ (aI t f a) (aI t f b) (aI t f p) = if f then -sideZ a b p else sideZ a b p := by
  unfold aI
  rw [sideZ_rIN]
  cases f
  · rfl
  · simp only [if_true]; rw [sideZ_flip]
theorem ge_zero {x : Nat} (h : finB x = true) : geB x 0 = decide (0 ≤ key x) := by rw [ge_le h f0, leB_fin f0 h, k0]
theorem le_zero {x : Nat} (h : finB x = true) : leB x 0 = decide (key x ≤ 0) := by rw [leB_fin h f0, k0]
/-- turned glass lies where the turned point lies -/
theorem lies_turn {t : Int} {f : Bool} {s s' : Sh} {p p' : Pt} (h1 : finP s.1) (h2 : finP s.2.1) (h3 : finP s.2.2.1) (hp : finP p)
    (g1 : finP s'.1) (g2 : finP s'.2.1) (g3 : finP s'.2.2.1) (gp : finP p')
    (e1 : keyP s'.1 = aI t f (keyP s.1)) (e2 : keyP s'.2.1 = aI t f (keyP s.2.1)) (e3 : keyP s'.2.2.1 = aI t f (keyP s.2.2.1)) (ep : keyP p' = aI t f (keyP p)) : liesB s' p' = liesB s p := by
  obtain ⟨x1, x2⟩ := side_keys h1 h2 hp
  obtain ⟨y1, y2⟩ := side_keys h2 h3 hp
  obtain ⟨z1, z2⟩ := side_keys h3 h1 hp
  obtain ⟨u1, u2⟩ := side_keys g1 g2 gp
  obtain ⟨v1, v2⟩ := side_keys g2 g3 gp
  obtain ⟨w1, w2⟩ := side_keys g3 g1 gp
  rw [e1, e2, ep, sideZ_aI, ← x1] at u1
  rw [e2, e3, ep, sideZ_aI, ← y1] at v1
  rw [e3, e1, ep, sideZ_aI, ← z1] at w1
  unfold liesB
  rw [ge_zero x2, ge_zero y2, ge_zero z2, ge_zero u2, ge_zero v2, ge_zero w2, le_zero x2, le_zero y2, le_zero z2, le_zero u2, le_zero v2, le_zero w2]
  generalize key (sideN s.1 s.2.1 p) = a at *
  generalize key (sideN s.2.1 s.2.2.1 p) = b at *
  generalize key (sideN s.2.2.1 s.1 p) = c at *
  rw [u1, v1, w1]
  cases f
  · rfl
  · simp only [if_true]
    rw [Bool.eq_iff_iff]
    simp only [Bool.or_eq_true, Bool.and_eq_true, decide_eq_true_eq]
    omega

/-! ### colours -/
def mixN (x y k : Nat) : Nat := if gtB (addB (mulB x (subB 1065353216 k)) (mulB y k)) 1065353216 then 1065353216 else addB (mulB x (subB 1065353216 k)) (mulB y k)
def mixC (a b : Col) (k : Nat) : Col := (mixN a.1 b.1 k, mixN a.2.1 b.2.1 k, mixN a.2.2 b.2.2 k)
def filtC (a b : Col) : Col := (mulB a.1 b.1, mulB a.2.1 b.2.1, mulB a.2.2 b.2.2)
/-- light behind shards -/
def seenL (l : List Sh) (p : Pt) (light : Col) : Col := l.foldl (fun c s => if liesB s p then mixC (filtC c s.2.2.2.1) c s.2.2.2.2 else c) light
theorem colB_parts {c : Col} (h : colB c = true) : partB c.1 = true ∧ partB c.2.1 = true ∧ partB c.2.2 = true := by
  unfold colB at h
  simp only [Bool.and_eq_true] at h
  exact h
theorem seen_turn {t : Int} {f : Bool} {p p' : Pt} (hp : finP p) (gp : finP p') (ep : keyP p' = aI t f (keyP p)) : ∀ (l l' : List Sh), l'.length = l.length →
    (∀ (i : Nat) s s', l[i]? = some s → l'[i]? = some s' → (finP s.1 ∧ finP s.2.1 ∧ finP s.2.2.1) ∧ (finP s'.1 ∧ finP s'.2.1 ∧ finP s'.2.2.1) ∧ keyP s'.1 = aI t f (keyP s.1) ∧ keyP s'.2.1 = aI t f (keyP s.2.1) ∧ keyP s'.2.2.1 = aI t f (keyP s.2.2.1) ∧ s'.2.2.2 = s.2.2.2) →
    ∀ light, seenL l' p' light = seenL l p light
  | [], [], _, _, _ => rfl
  | [], _ :: _, h, _, _ => by simp at h
  | _ :: _, [], h, _, _ => by simp at h
  | s :: l, s' :: l', h, hall, light => by
    obtain ⟨⟨a1, a2, a3⟩, ⟨b1, b2, b3⟩, c1, c2, c3, c4⟩ := hall 0 s s' rfl rfl
    have hl := lies_turn a1 a2 a3 hp b1 b2 b3 gp c1 c2 c3 ep
    unfold seenL
    rw [List.foldl_cons, List.foldl_cons, hl, c4]
    exact seen_turn hp gp ep l l' (by simpa using h) (fun i x x' hx hx' => hall (i + 1) x x' hx hx') _
end Go.Proofs.YthlphmojldbpkaaGreat

/- isStep: the program's. -/
namespace Go.Proofs.YthlphmojldbpkaaGreat
open Go.RowKit
attribute [local go_sem] run_store_float run_store_complex

def stpB (x : Nat) : Bool := gtB x 0 && leB x 1132462080
theorem isStep_any (x : Nat) (w : World) :
    Calls Tryz.prog 70 #[.float .f32 x] w fun e w' => e = .returned (.bool (stpB x)) ∧ w = w' := by
  have r : stpB x = (gtB x 0 && leB x 1132462080) := rfl
  cases h1 : gtB x 0
  all_goals
    rw [h1] at r
    have e1 : (FloatKind.f32.format.order x 0 == some .gt) = gtB x 0 := rfl
    rw [h1] at e1
    have R := Lib.hid r
    clear r h1
    go_enter Tryz.func70, Tryz.ntmps70
    go_wp2
    go_ret
    exact ⟨by rw [R.out]; simp [leB, ordB, FloatKind.format], rfl⟩

end Go.Proofs.YthlphmojldbpkaaGreat

/- Draws of numbers and of colours. -/
namespace Go.Proofs.YthlphmojldbpkaaGreat
open Go.RowKit
attribute [local go_sem] run_store_float run_store_complex

/-- the cursor and its bytes -/
def CurB (w : World) (g : Nat) (A : Option Addr) (m c : Nat) (bs : List Int) : Prop := Cur w g A m c ∧ Rd byteC 1 w g A m bs ∧ g < w.heap.size ∧ (∀ x ∈ bs, 0 ≤ x ∧ x ≤ 255) ∧ m ≤ maxLen
theorem Cur.lt {w : World} {g : Nat} {A : Option Addr} {m c : Nat} (h : Cur w g A m c) : g < w.heap.size := by
  obtain ⟨i, h, _, hh⟩ := h
  rcases Nat.lt_or_ge g w.heap.size with hlt | hge
  · exact hlt
  · rw [Array.getElem?_eq_none hge] at hh; cases hh
theorem CurB.gr {w w' : World} {g : Nat} {A : Option Addr} {m c : Nat} {bs : List Int} (h : CurB w g A m c bs) (hc : Cur w' g A m c) (hg : w.grownBy w' (some g)) : CurB w' g A m c bs :=
  ⟨hc, h.2.1.keep (fun p hp => World.cell?_of_block (hg.block p.block (by have := h.2.2.1; omega) (fun e => by injection e with e; omega))), hc.lt, h.2.2.2⟩
theorem CurB.step {w w' : World} {g : Nat} {A : Option Addr} {m c : Nat} {bs : List Int} (h : CurB w g A m c bs) (hb : Below w.heap.size w w') : CurB w' g A m c bs := by
  obtain ⟨⟨i, x, hi, hh⟩, h2, h3, h4⟩ := h
  exact ⟨⟨i, x, hi, (hb.block g h3).trans hh⟩, h2.keep (fun p hp => hb.cell (p := p) (by omega)), Nat.lt_of_lt_of_le h3 hb.size, h4⟩

theorem l1BelowC (g : Nat) (A : Option Addr) (m c : Nat) (bs : List Int) (n : Int) (w : World) (hn : 1 ≤ n) (hn2 : n ≤ 256) (hc : CurB w g A m c bs) :
    Calls Tryz.prog 43 #[.pointer (some ⟨g, 0, none⟩), .int .i64 n] w fun e w' => ∃ x : Nat, (x : Int) < n ∧ e = .returned (.int .i64 x) ∧ CurB w' g A m c bs ∧ w.grownBy w' (some g) := by
  refine (l1Below_any g A m c bs n w hn hn2 hc.2.2.2.2 hc.1 hc.2.1 hc.2.2.2.1).mono ?_
  rintro e w' ⟨x, hx, rfl, h1, h2⟩
  exact ⟨x, hx, rfl, hc.gr h1 h2, h2⟩

theorem l1OnceC (g : Nat) (A : Option Addr) (m c : Nat) (bs : List Int) (n : Int) (w : World) (hn : 1 ≤ n) (hn2 : n ≤ 256) (hc : CurB w g A m c bs) :
    Calls Tryz.prog 103 #[.pointer (some ⟨g, 0, none⟩), .int .i64 n] w fun e w' => ∃ b : Bool, e = .returned (.bool b) ∧ CurB w' g A m c bs ∧ w.grownBy w' (some g) := by
  go_enter Tryz.func103, Tryz.ntmps103
  go_wp2_with (go_at_call 43; refine (l1BelowC g A m c bs n _ hn hn2 hc).mono ?_; rintro e w1 ⟨x, hx, rfl, hc1, hg1⟩)
  go_ret
  exact ⟨_, rfl, hc1, hg1⟩

theorem l1SomeC (g : Nat) (A : Option Addr) (m c : Nat) (bs : List Int) (lo hi : Int) (w : World) (h0 : 0 ≤ lo) (h1 : lo ≤ hi) (h2 : hi ≤ 200) (hc : CurB w g A m c bs) :
    Calls Tryz.prog 64 #[.pointer (some ⟨g, 0, none⟩), .int .i64 lo, .int .i64 hi] w fun e w' => ∃ x : Int, lo ≤ x ∧ x ≤ hi ∧ e = .returned (.int .i64 x) ∧ CurB w' g A m c bs ∧ w.grownBy w' (some g) := by
  go_enter Tryz.func64, Tryz.ntmps64
  go_wp2_with fail
  refine (l1BelowC g A m c bs (hi - lo + 1) _ (by omega) (by omega) hc).mono ?_
  rintro e w1 ⟨x, hx, rfl, hc1, hg1⟩
  go_wp2
  go_ret
  exact ⟨lo + (x : Int), by omega, by omega, rfl, hc1, hg1⟩

def quoB (k : Nat) : Nat := match floatBits .quo .f32 (fl k) 1120403456 with | some r => r | none => 0
theorem quo_all : ∀ k : Nat, k < 101 → floatBits .quo .f32 (fl k) 1120403456 = some (quoB k) ∧ partB (quoB k) = true := by decide +kernel
theorem part_1 : partB 0 = true := by decide +kernel
theorem part_2 : partB 1065353216 = true := by decide +kernel
theorem part_3 : partB 1056964608 = true := by decide +kernel
theorem part_4 : partB 1048576000 = true := by decide +kernel

set_option maxHeartbeats 1000000 in
theorem l2OneC (g : Nat) (A : Option Addr) (m c : Nat) (bs : List Int) (w : World) (hc : CurB w g A m c bs) :
    Calls Tryz.prog 101 #[.pointer (some ⟨g, 0, none⟩)] w fun e w' => ∃ x : Nat, partB x = true ∧ e = .returned (.float .f32 x) ∧ CurB w' g A m c bs ∧ w.grownBy w' (some g) := by
  go_enter Tryz.func101, Tryz.ntmps101
  go_wp2_with fail
  refine (l1OnceC g A m c bs 3 _ (by omega) (by omega) hc).mono ?_
  rintro e w1 ⟨b, rfl, hc1, hg1⟩
  cases b
  · go_wp2_with fail
    refine (l1BelowC g A m c bs 101 _ (by omega) (by omega) hc1).mono ?_
    rintro e w2 ⟨y, hy, rfl, hc2, hg2⟩
    obtain ⟨q1, q2⟩ := quo_all y (by omega)
    have Q2 := Lib.hid q2
    obtain ⟨r, hr⟩ : ∃ r, r = quoB y := ⟨_, rfl⟩
    rw [← hr] at q1 Q2
    have hq := fun wx => run_float_arith (P := Tryz.prog) wx .quo 24 .f32 (fl y) 1120403456 r q1
    unfold fl at hq
    clear q1 q2 hr
    go_wp2
    go_ret
    exact ⟨r, Q2.out, rfl, hc2, grown_trans hg1 hg2⟩
  · go_wp2_with fail
    obtain ⟨W, hWe⟩ : ∃ W, W = w1.alloc (Obj.cells #[.float .f32 0, .float .f32 1065353216, .float .f32 1056964608, .float .f32 1048576000] 24) := ⟨_, rfl⟩
    have hW : Below w1.heap.size w1 W := by rw [hWe]; (repeat (first | with_reducible assumption | exact Below.refl _ _ | (refine Below.setCell ?_ (by first | exact Nat.le_refl _ | (simp; done) | omega | (simp; omega)) _) | (refine below_drewN ?_ _) | (refine Below.drew ?_) | (refine Below.alloc ?_ (by first | exact Nat.le_refl _ | (simp; done) | omega | (simp; omega)) _) | (refine then_ ?_ (by with_reducible assumption)) | assumption | (refine then_ ?_ (by assumption))))
    have zW : w1.heap.size < W.heap.size := by rw [hWe]; simp
    have q0 : W.cell? ⟨w1.heap.size, 0, none⟩ = some (.float .f32 0) := by rw [hWe]; simp [go_sem]
    have q1 : W.cell? ⟨w1.heap.size, 1, none⟩ = some (.float .f32 1065353216) := by rw [hWe]; simp [go_sem]
    have q2 : W.cell? ⟨w1.heap.size, 2, none⟩ = some (.float .f32 1056964608) := by rw [hWe]; simp [go_sem]
    have q3 : W.cell? ⟨w1.heap.size, 3, none⟩ = some (.float .f32 1048576000) := by rw [hWe]; simp [go_sem]
    rw [← hWe]
    clear hWe
    have hne : w1.heap.size ≠ g := by have := hc1.2.2.1; omega
    refine (l1BelowC g A m c bs 4 _ (by omega) (by omega) (hc1.step hW)).mono ?_
    rintro e w2 ⟨y, hy, rfl, hc2, hg2⟩
    have hk := fun o => (gcell hg2).1 w1.heap.size o zW hne
    have c0 := (hk 0).trans q0
    have c1 := (hk 1).trans q1
    have c2 := (hk 2).trans q2
    have c3 := (hk 3).trans q3
    have G2 := grown_trans (grown_trans hg1 (grown_of_below hW (some g))) hg2
    clear q0 q1 q2 q3 hk hg1 hW hc1 hg2
    have e : y = 0 ∨ y = 1 ∨ y = 2 ∨ y = 3 := by omega
    rcases e with rfl | rfl | rfl | rfl
    · go_wp2
      go_ret
      exact ⟨_, part_1, rfl, hc2, G2⟩
    · go_wp2
      go_ret
      exact ⟨_, part_2, rfl, hc2, G2⟩
    · go_wp2
      go_ret
      exact ⟨_, part_3, rfl, hc2, G2⟩
    · go_wp2
      go_ret
      exact ⟨_, part_4, rfl, hc2, G2⟩

theorem grown_new {a w : World} {row : Option Nat} {p : Addr} (h : a.grownBy w row) (hp : a.heap.size ≤ p.block) (u : Value) : a.grownBy (w.setCell p u) row :=
  ⟨h.os, h.tape, h.output, by simpa [World.setCell] using h.size, fun i hi hne => (Below.heap_setCell w p u i (by omega)).trans (h.block i hi hne)⟩
theorem curB_set {w : World} {g : Nat} {A : Option Addr} {m c : Nat} {bs : List Int} {p : Addr} (h : CurB w g A m c bs) (hp : g < p.block) (u : Value) : CurB (w.setCell p u) g A m c bs := by
  obtain ⟨⟨i, x, hi, hh⟩, h2, h3, h4⟩ := h
  refine ⟨⟨i, x, hi, (Below.heap_setCell w p u g (by omega)).trans hh⟩, h2.keep (fun q hq => World.cell?_setCell_other w p q u (fun e => ?_)), by simpa [World.setCell] using h3, h4⟩
  rw [e] at hp; omega

set_option maxHeartbeats 1000000 in
theorem l2DrawC (g : Nat) (A : Option Addr) (m c : Nat) (bs : List Int) (w : World) (hc : CurB w g A m c bs) :
    Calls Tryz.prog 65 #[.pointer (some ⟨g, 0, none⟩)] w fun e w' => ∃ x y z : Nat, colB (x, y, z) = true ∧ e = .returned (.agg #[.float .f32 x, .float .f32 y, .float .f32 z]) ∧ CurB w' g A m c bs ∧ w.grownBy w' (some g) := by
  have hgw := hc.2.2.1
  go_enter Tryz.func65, Tryz.ntmps65
  go_wp2_with fail
  obtain ⟨W, hWe⟩ : ∃ W, W = w.alloc (Obj.cells #[.float .f32 0, .float .f32 0, .float .f32 0] 26) := ⟨_, rfl⟩
  have hW : Below w.heap.size w W := by rw [hWe]; (repeat (first | with_reducible assumption | exact Below.refl _ _ | (refine Below.setCell ?_ (by first | exact Nat.le_refl _ | (simp; done) | omega | (simp; omega)) _) | (refine below_drewN ?_ _) | (refine Below.drew ?_) | (refine Below.alloc ?_ (by first | exact Nat.le_refl _ | (simp; done) | omega | (simp; omega)) _) | (refine then_ ?_ (by with_reducible assumption)) | assumption | (refine then_ ?_ (by assumption))))
  have zW : w.heap.size < W.heap.size := by rw [hWe]; simp
  have q0 : W.cell? ⟨w.heap.size, 0, none⟩ = some (.float .f32 0) := by rw [hWe]; simp [go_sem]
  have q1 : W.cell? ⟨w.heap.size, 1, none⟩ = some (.float .f32 0) := by rw [hWe]; simp [go_sem]
  have q2 : W.cell? ⟨w.heap.size, 2, none⟩ = some (.float .f32 0) := by rw [hWe]; simp [go_sem]
  have f0 : ∀ j, W.frozen? ⟨w.heap.size, j, none⟩ = false := by intro j; rw [hWe]; simp [go_sem]
  rw [← hWe]
  clear hWe
  have hne : w.heap.size ≠ g := by omega
  refine (l2OneC g A m c bs _ (hc.step hW)).mono ?_
  rintro e w1 ⟨x, hx, rfl, hc1, hg1⟩
  go_wp2_with fail
  refine (l2OneC g A m c bs _ hc1).mono ?_
  rintro e w2 ⟨y, hy, rfl, hc2, hg2⟩
  go_wp2_with fail
  refine (l2OneC g A m c bs _ hc2).mono ?_
  rintro e w3 ⟨z, hz, rfl, hc3, hg3⟩
  have G := grown_trans (grown_trans hg1 hg2) hg3
  have hk := fun o => (gcell G).1 w.heap.size o zW hne
  have hfk := fun o => ((gcell G).2 w.heap.size o zW hne).trans (f0 o)
  have c0 := (hk 0).trans q0
  have c1 := (hk 1).trans q1
  have c2 := (hk 2).trans q2
  have GW := grown_trans (grown_of_below hW (some g)) G
  have X := Lib.hid (show colB (x, y, z) = true by unfold colB; rw [hx, hy, hz]; rfl)
  clear q0 q1 q2 hk f0 hg1 hg2 hg3 hW hc1 hc2 G hx hy hz
  go_wp2
  exact bodyPost_ret (v := .agg #[.float .f32 x, .float .f32 y, .float .f32 z]) (by simp [results, Tryz.results65, go_sem, *]) rfl ⟨x, y, z, X.out, rfl, curB_set (curB_set (curB_set hc3 hgw _) hgw _) hgw _, grown_new (grown_new (grown_new GW (Nat.le_refl _) _) (Nat.le_refl _) _) (Nat.le_refl _) _⟩
end Go.Proofs.YthlphmojldbpkaaGreat

/- l3Plus: the specification's. -/
namespace Go.Proofs.YthlphmojldbpkaaGreat
open Go.RowKit
attribute [local go_sem] run_store_float run_store_complex

theorem specPlus_any (a b : Pt) (w : World) :
    Calls Tryz.prog 102 #[.complex .f32 a.1 a.2, .complex .f32 b.1 b.2] w fun e w' => e = .returned (.complex .f32 (plusP a b).1 (plusP a b).2) ∧ Dr w w' := by
  go_enter Tryz.func102, Tryz.ntmps102
  go_wp2_with fail
  refine (l1Plus_any _ _ _).mono ?_
  rintro e w' ⟨rfl, n, rfl⟩
  go_wp2_with fail
  refine (l1Plus_any _ _ _).mono ?_
  rintro e w' ⟨rfl, k, rfl⟩
  go_wp2
  go_ret
  exact ⟨rfl, n + k, rfl⟩

end Go.Proofs.YthlphmojldbpkaaGreat

/- Draws: the cursor's worlds. -/
namespace Go.Proofs.YthlphmojldbpkaaGreat
open Go.RowKit
attribute [local go_sem] run_store_float run_store_complex

theorem CurB.off {w w' : World} {g : Nat} {A : Option Addr} {m c : Nat} {bs : List Int} {row : Option Nat} (h : CurB w g A m c bs) (hg : w.grownBy w' row) (ho : ∀ k, row = some k → g < k) : CurB w' g A m c bs := by
  obtain ⟨⟨i, x, hi, hh⟩, h2, h3, h4⟩ := h
  refine ⟨⟨i, x, hi, (hg.block g h3 (fun e => by have := ho g e.symm; omega)).trans hh⟩, h2.keep (fun p hp => World.cell?_of_block (hg.block p.block (by omega) (fun e => by have := ho _ e.symm; omega))), Nat.lt_of_lt_of_le h3 hg.size, h4⟩
theorem Rd.gro {α : Type} {enc : α → List Value} {sz : Nat} {w w' : World} {B f n : Nat} {xs : List α} {row : Option Nat} {o : Nat} (h : Rd enc sz w B (some ⟨f, o, none⟩) n xs) (hg : w.grownBy w' row) (hlt : f < w.heap.size) (hne : row ≠ some f) :
    Rd enc sz w' B (some ⟨f, o, none⟩) n xs :=
  ⟨h.1, fun hn => by
    obtain ⟨b, off, e, hb, hc⟩ := h.2 hn
    injection e with e
    injection e with e1 e2
    subst e1 e2
    exact ⟨f, o, rfl, hb, fun k x hx j u hu => (World.cell?_of_block (hg.block f hlt (fun e => hne e.symm))).trans (hc k x hx j u hu)⟩⟩
theorem CurB.drew {w : World} {g : Nat} {A : Option Addr} {m c : Nat} {bs : List Int} (h : CurB w g A m c bs) : CurB w.drew g A m c bs := h
theorem frB {w w' : World} {b : Nat} (h : ∀ j, w.frozen? ⟨b, j, none⟩ = false) (hg : Below w.heap.size w w') (hb : b < w.heap.size) : ∀ j, w'.frozen? ⟨b, j, none⟩ = false :=
  fun j => (hg.frozen (p := ⟨b, j, none⟩) hb).trans (h j)
theorem frS {w : World} {b : Nat} (h : ∀ j, w.frozen? ⟨b, j, none⟩ = false) (p : Addr) (u : Value) : ∀ j, (w.setCell p u).frozen? ⟨b, j, none⟩ = false := by
  intro j; simp [go_sem, h j]
end Go.Proofs.YthlphmojldbpkaaGreat

/- A box's cells as a list. -/
namespace Go.Proofs.YthlphmojldbpkaaGreat
open Go.RowKit

def CA (w : World) (b : Nat) (l : List Value) : Prop := ∀ (i : Nat) v, l[i]? = some v → w.cell? ⟨b, i, none⟩ = some v
def FA (w : World) (b : Nat) : Prop := ∀ j, w.frozen? ⟨b, j, none⟩ = false
theorem CA.new (w : World) (a : Array Value) (t : TypeId) : CA (w.alloc (Obj.cells a t)) w.heap.size a.toList := by
  intro i v hv
  have := cell_of_row (w.alloc (Obj.cells a t)) w.heap.size i a t (0, 0) (heap_alloc_new w _)
  rw [this]
  simpa using hv
theorem FA.new (w : World) (a : Array Value) (t : TypeId) : FA (w.alloc (Obj.cells a t)) w.heap.size := by
  intro j; simp [go_sem]
theorem CA.keep {w w' : World} {b : Nat} {l : List Value} (h : CA w b l) (hb : Below w.heap.size w w') : CA w' b l := fun i v hv => keepC (h i v hv) hb
theorem CA.lt {w : World} {b : Nat} {v : Value} {l : List Value} (h : CA w b (v :: l)) : b < w.heap.size := World.block_lt_of_cell? _ _ (h 0 v rfl)
theorem FA.keep {w w' : World} {b : Nat} (h : FA w b) (hb : Below w.heap.size w w') (hl : b < w.heap.size) : FA w' b := frB h hb hl
theorem CA.alloc {w : World} {b : Nat} {l : List Value} (h : CA w b l) (o : Obj) : CA (w.alloc o) b l := h.keep (Below.alloc (Below.refl _ _) (Nat.le_refl _) _)
theorem FA.alloc {w : World} {b : Nat} (h : FA w b) (hl : b < w.heap.size) (o : Obj) : FA (w.alloc o) b := h.keep (Below.alloc (Below.refl _ _) (Nat.le_refl _) _) hl
/-- kept over growth by another row -/
theorem CA.grown {w w' : World} {b : Nat} {l : List Value} {row : Option Nat} (h : CA w b l) (hg : w.grownBy w' row) (hne : ∀ k, row = some k → b ≠ k) : CA w' b l := fun i v hv => by
  have hlt := World.block_lt_of_cell? _ _ (h i v hv)
  rw [hg.cell_far ⟨b, i, none⟩ hlt (fun e => hne b e.symm rfl)]
  exact h i v hv
theorem FA.grown {w w' : World} {b : Nat} {row : Option Nat} (h : FA w b) (hl : b < w.heap.size) (hg : w.grownBy w' row) (hne : ∀ k, row = some k → b ≠ k) : FA w' b := fun j => by
  rw [hg.frozen_far ⟨b, j, none⟩ hl (fun e => hne b e.symm rfl)]
  exact h j
/-- kept where another block's cell is set -/
theorem CA.other {w : World} {b : Nat} {l : List Value} (h : CA w b l) (p : Addr) (u : Value) (hp : b ≠ p.block) : CA (w.setCell p u) b l := fun i v hv => by
  rw [World.cell?_setCell_other w p ⟨b, i, none⟩ u (fun e => hp (by rw [e]))]
  exact h i v hv
theorem FA.set {w : World} {b : Nat} (h : FA w b) (p : Addr) (u : Value) : FA (w.setCell p u) b := frS h p u
theorem CA.drewN {w : World} {b : Nat} {l : List Value} (h : CA w b l) (n : Nat) : CA (w.drewN n) b l := h
theorem FA.drewN {w : World} {b : Nat} (h : FA w b) (n : Nat) : FA (w.drewN n) b := h
/-- one of its own cells is set -/
theorem CA.put {w : World} {b : Nat} {l : List Value} (h : CA w b l) (i : Nat) (u : Value) : CA (w.setCell ⟨b, i, none⟩ u) b (l.set i u) := fun j v hv => by
  by_cases e : i = j
  · subst e
    have hl : i < l.length := by
      have := (List.getElem?_eq_some_iff.1 hv).1
      simpa using this
    rw [List.getElem?_set_self hl] at hv
    injection hv with hv
    subst hv
    have := h i _ (List.getElem?_eq_getElem hl)
    exact World.cell?_setCell_same _ _ _ this
  · rw [List.getElem?_set_ne e] at hv
    rw [World.cell?_setCell_other w ⟨b, i, none⟩ ⟨b, j, none⟩ u (fun x => e (by injection x))]
    exact h j v hv
theorem own_setp {w : World} {base : Nat} {E : TypeId} {sz : Nat} {v : Value} {n : Nat} {xs : List Value} {b : Nat} (h : w.ownsRow base E sz v n xs) (hb : b < base) (i : Nat) (u : Value) : (w.setCell ⟨b, i, none⟩ u).ownsRow base E sz v n xs := ownsRow_setCell_below h hb u
end Go.Proofs.YthlphmojldbpkaaGreat

/- One element is deleted out of a row of the call's own. No program. -/
namespace Go.Proofs.YthlphmojldbpkaaGreat
open Go.RowKit

def setL : List Value → Nat → List Value → List Value
  | xs, _, [] => xs
  | xs, j, u :: us => setL (xs.set j u) (j + 1) us
theorem take_set_succ {xs : List Value} {j : Nat} (u : Value) (h : j < xs.length) : (xs.set j u).take (j + 1) = xs.take j ++ [u] := by
  rw [List.take_add_one, List.getElem?_set_self h]
  congr 1
  apply List.ext_getElem?
  intro k
  by_cases hk : k < j
  · rw [List.getElem?_take_of_lt hk, List.getElem?_take_of_lt hk, List.getElem?_set_ne (by omega)]
  · rw [List.getElem?_take, List.getElem?_take, if_neg hk, if_neg hk]
theorem setL_take : ∀ (us : List Value) (xs : List Value) (j : Nat), j + us.length ≤ xs.length → (setL xs j us).take (j + us.length) = xs.take j ++ us
  | [], xs, j, _ => by simp [setL]
  | u :: us, xs, j, h => by
    simp only [List.length_cons] at h
    have e : j + (u :: us).length = (j + 1) + us.length := by simp; omega
    unfold setL
    rw [e, setL_take us (xs.set j u) (j + 1) (by simp; omega), take_set_succ u (by omega), List.append_assoc]
    rfl
theorem own_setL {base : Nat} {E : TypeId} {sz g n c : Nat} : ∀ (us : List Value) (j : Nat) (w : World) (xs : List Value), w.ownsRow base E sz (.slice (some ⟨g, 0, none⟩) n c) n xs →
    (w.setCells g j us).ownsRow base E sz (.slice (some ⟨g, 0, none⟩) n c) n (setL xs j us)
  | [], _, _, _, h => h
  | u :: us, j, _, _, h => own_setL us (j + 1) _ _ (h.stored j u).1
theorem grown_setCells {a : World} {g : Nat} : ∀ (us : List Value) (j : Nat) (w : World), a.grownBy w (some g) → a.grownBy (w.setCells g j us) (some g)
  | [], _, _, h => h
  | u :: us, j, _, h => grown_setCells us (j + 1) _ (grown_set h j u)
theorem flat_drop {α : Type} {enc : α → List Value} {sz : Nat} (he : ∀ x, (enc x).length = sz) : ∀ (xs : List α) (i : Nat), (flat enc xs).drop (i * sz) = flat enc (xs.drop i)
  | [], i => by simp [flat]
  | x :: xs, 0 => by simp
  | x :: xs, i + 1 => by
    have e : (i + 1) * sz = (enc x).length + i * sz := by rw [he x, Nat.add_mul]; omega
    rw [List.drop_succ_cons, flat_cons, ← flat_drop he xs i, e, List.drop_append]
    simp
theorem del_own {α : Type} {enc : α → List Value} {sz : Nat} (he : ∀ x, (enc x).length = sz) {w : World} {base : Nat} {E : TypeId} {g n c i : Nat} {bs : List α}
    (h : w.ownsRow base E sz (.slice (some ⟨g, 0, none⟩) n c) n (flat enc bs)) (hl : bs.length = n) (hi : i < n) :
    (w.setCells g (i * sz) (flat enc (bs.drop (i + 1)))).ownsRow base E sz (.slice (some ⟨g, 0, none⟩) (n - 1) c) (n - 1) (flat enc (bs.eraseIdx i)) := by
  have hd : (flat enc (bs.drop (i + 1))).length = (n - (i + 1)) * sz := by rw [flat_length he, List.length_drop, hl]
  have hf : (flat enc bs).length = n * sz := by rw [flat_length he, hl]
  have hs : i * sz + (n - (i + 1)) * sz = (n - 1) * sz := by rw [← Nat.add_mul]; congr 1; omega
  have hle : (n - 1) * sz ≤ n * sz := Nat.mul_le_mul_right _ (by omega)
  have o := own_take (own_setL (flat enc (bs.drop (i + 1))) (i * sz) w _ h) (show n - 1 ≤ n by omega)
  rw [← hs, ← hd, setL_take _ _ _ (by rw [hd, hs, hf]; exact hle), flat_take he, ← flat_append, ← List.eraseIdx_eq_take_drop_succ] at o
  exact o
theorem del_news {α : Type} {enc : α → List Value} {sz : Nat} (he : ∀ x, (enc x).length = sz) (hsz : 0 < sz) {w : World} {B g n i : Nat} {bs : List α} (h : Rd enc sz w B (some ⟨g, 0, none⟩) n bs) :
    ∀ j u, (flat enc (bs.drop (i + 1)))[j]? = some u → w.cell? ⟨g, (i + 1) * sz + j, none⟩ = some u := by
  intro j u hu
  rw [← flat_drop he, List.getElem?_drop] at hu
  have := Rd.cells he hsz h _ _ hu
  rw [Addr.add_lit] at this
  simpa using this
end Go.Proofs.YthlphmojldbpkaaGreat

/- StepTumble: the program's, of valid tumbles. -/
namespace Go.Proofs.YthlphmojldbpkaaGreat
open Go.RowKit
attribute [local go_sem] run_store_float run_store_complex

def StepI (mir : Int) (gr : Pt) (loss n : Nat) (bs : List Bd) (base : Nat) (e : Ending) (w' : World) : Prop :=
  (allGo gr bs = true → ∃ B d, e = .returned (.tuple #[.agg #[.int .i64 mir, .complex .f32 gr.1 gr.2, .float .f32 loss, .slice B n d], .bool true]) ∧ w'.ownsRow base 54 2 (.slice B n d) n (flat bdC (goL mir gr loss bs))) ∧
  (allGo gr bs = false → ∃ (B : Option Addr) (m d : Nat), e = .returned (.tuple #[.agg #[.int .i64 mir, .complex .f32 gr.1 gr.2, .float .f32 loss, .slice B m d], .bool false]))
set_option maxRecDepth 100000 in
set_option maxHeartbeats 4000000 in
theorem stepTumble_any (mir : Int) (gr : Pt) (loss : Nat) (A : Option Addr) (n c : Nat) (bs : List Bd) (w : World) (hn : n ≤ 8) (ht : tumB mir gr loss bs = true) (ha : Rd bdC 2 w w.heap.size A n bs) :
    Calls Tryz.prog 82 #[.agg #[.int .i64 mir, .complex .f32 gr.1 gr.2, .float .f32 loss, .slice A n c]] w fun e w' => StepI mir gr loss n bs w.heap.size e w' ∧ Below w.heap.size w w' := by
  have KI := Lib.hid (fun w h => isTumble_any mir gr loss A n c bs w hn h)
  have KT := Lib.hid (fun w h => tick_any mir gr loss A n c bs w hn h)
  rw [ht] at KI
  go_enter Tryz.func82, Tryz.ntmps82
  go_wp2_with fail
  have hW := Below.refl w.heap.size w
  have ca := CA.new w #[.int .i64 mir, .complex .f32 gr.1 gr.2, .float .f32 loss, .slice A n c] 31; have fa := FA.new w #[.int .i64 mir, .complex .f32 gr.1 gr.2, .float .f32 loss, .slice A n c] 31; replace hW := hW.alloc (hW.size) (Obj.cells #[.int .i64 mir, .complex .f32 gr.1 gr.2, .float .f32 loss, .slice A n c] 31); obtain ⟨V, hVe⟩ : ∃ V, V = w.alloc (Obj.cells #[.int .i64 mir, .complex .f32 gr.1 gr.2, .float .f32 loss, .slice A n c] 31) := ⟨_, rfl⟩; have zV : V.heap.size = w.heap.size + 1 := (by rw [hVe]; simp); rw [← hVe] at ca fa hW; rw [← hVe]; clear hVe; have la := ca.lt
  have cb := CA.new V #[.int .i64 0, .complex .f32 0 0, .float .f32 0, .slice none 0 0] 31; have fb := FA.new V #[.int .i64 0, .complex .f32 0 0, .float .f32 0, .slice none 0 0] 31; replace ca := ca.alloc (Obj.cells #[.int .i64 0, .complex .f32 0 0, .float .f32 0, .slice none 0 0] 31); replace fa := fa.alloc la (Obj.cells #[.int .i64 0, .complex .f32 0 0, .float .f32 0, .slice none 0 0] 31); replace hW := hW.alloc (hW.size) (Obj.cells #[.int .i64 0, .complex .f32 0 0, .float .f32 0, .slice none 0 0] 31); obtain ⟨W, hWe⟩ : ∃ W, W = V.alloc (Obj.cells #[.int .i64 0, .complex .f32 0 0, .float .f32 0, .slice none 0 0] 31) := ⟨_, rfl⟩; have zW : W.heap.size = V.heap.size + 1 := (by rw [hWe]; simp); rw [← hWe] at cb fb ca fa hW; rw [← hWe]; clear hWe; have lb := cb.lt; replace la := ca.lt
  rw [zV] at cb fb lb zW
  clear zV
  have l1 : w.heap.size ≤ w.heap.size + 1 := by omega
  have lW1 : w.heap.size + 1 < W.heap.size := by omega
  have n10 : ¬ w.heap.size = w.heap.size + 1 := by omega
  (with_reducible refine (KI.out _ (ha.step hW)).mono ?_)
  rintro e w1 ⟨rfl, hb⟩
  replace ca := ca.keep hb; replace fa := fa.keep hb la; replace la := ca.lt; replace cb := cb.keep hb; replace fb := fb.keep hb lb; replace lb := cb.lt; replace hW := then_ hW hb
  have z1 := hb.size
  clear hb KI
  have a0 := ca 0 _ rfl; have a1 := ca 1 _ rfl; have a2 := ca 2 _ rfl; have a3 := ca 3 _ rfl
  go_wp2_with fail
  (with_reducible refine (KT.out _ (ha.step hW)).mono ?_)
  rintro e w2 ⟨hp, hb⟩
  clear a0 a1 a2 a3 KT
  replace ca := ca.keep hb; replace fa := fa.keep hb la; replace la := ca.lt; replace cb := cb.keep hb; replace fb := fb.keep hb lb; replace lb := cb.lt; replace hW := then_ hW hb
  have z2 := hb.size
  clear hb
  cases hg : allGo gr bs
  · skip
    obtain ⟨B, d, rfl, oB⟩ := hp.2 hg
    clear hp
    unfold tumV
    go_upto_region 4 with fail
    have hU2 := Below.refl w2.heap.size w2
    have cu := CA.new w2 #[.int .i64 mir, .complex .f32 gr.1 gr.2, .float .f32 loss, .slice B n d] 31; have fu := FA.new w2 #[.int .i64 mir, .complex .f32 gr.1 gr.2, .float .f32 loss, .slice B n d] 31; replace cb := cb.alloc (Obj.cells #[.int .i64 mir, .complex .f32 gr.1 gr.2, .float .f32 loss, .slice B n d] 31); replace fb := fb.alloc lb (Obj.cells #[.int .i64 mir, .complex .f32 gr.1 gr.2, .float .f32 loss, .slice B n d] 31); replace hW := hW.alloc (hW.size) (Obj.cells #[.int .i64 mir, .complex .f32 gr.1 gr.2, .float .f32 loss, .slice B n d] 31); replace hU2 := hU2.alloc (hU2.size) (Obj.cells #[.int .i64 mir, .complex .f32 gr.1 gr.2, .float .f32 loss, .slice B n d] 31); obtain ⟨U, hUe⟩ : ∃ U, U = w2.alloc (Obj.cells #[.int .i64 mir, .complex .f32 gr.1 gr.2, .float .f32 loss, .slice B n d] 31) := ⟨_, rfl⟩; have zU : U.heap.size = w2.heap.size + 1 := (by rw [hUe]; simp); rw [← hUe] at cu fu cb fb hW hU2; rw [← hUe]; clear hUe; have lu := cu.lt; replace lb := cb.lt
    replace oB := owns_below oB hU2
    replace oB := oB
    have u0 := cu 0 _ rfl; have u1 := cu 1 _ rfl; have u2 := cu 2 _ rfl; have u3 := cu 3 _ rfl
    have b0 := cb 0 _ rfl; have b1 := cb 1 _ rfl; have b2 := cb 2 _ rfl; have b3 := cb 3 _ rfl
    have f0 := fb 0; have f1 := fb 1; have f2 := fb 2; have f3 := fb 3
    go_wp2
    clear b0 b1 b2 b3 u0 u1 u2 u3
    replace cb := ((((cb.put 0 (.int .i64 mir)).put 1 (.complex .f32 gr.1 gr.2)).put 2 (.float .f32 loss)).put 3 (.slice B n d)); replace fb := ((((fb.set ⟨w.heap.size + 1, 0, none⟩ (.int .i64 mir)).set ⟨w.heap.size + 1, 1, none⟩ (.complex .f32 gr.1 gr.2)).set ⟨w.heap.size + 1, 2, none⟩ (.float .f32 loss)).set ⟨w.heap.size + 1, 3, none⟩ (.slice B n d)); replace oB := (own_setp (own_setp (own_setp (own_setp oB (show w.heap.size + 1 < w1.heap.size by omega) 0 (.int .i64 mir)) (show w.heap.size + 1 < w1.heap.size by omega) 1 (.complex .f32 gr.1 gr.2)) (show w.heap.size + 1 < w1.heap.size by omega) 2 (.float .f32 loss)) (show w.heap.size + 1 < w1.heap.size by omega) 3 (.slice B n d)); replace hW := ((((hW.setCell (p := ⟨w.heap.size + 1, 0, none⟩) l1 (.int .i64 mir)).setCell (p := ⟨w.heap.size + 1, 1, none⟩) l1 (.complex .f32 gr.1 gr.2)).setCell (p := ⟨w.heap.size + 1, 2, none⟩) l1 (.float .f32 loss)).setCell (p := ⟨w.heap.size + 1, 3, none⟩) l1 (.slice B n d)); obtain ⟨F2, hF2e⟩ : ∃ F2, F2 = ((((U.setCell ⟨w.heap.size + 1, 0, none⟩ (.int .i64 mir)).setCell ⟨w.heap.size + 1, 1, none⟩ (.complex .f32 gr.1 gr.2)).setCell ⟨w.heap.size + 1, 2, none⟩ (.float .f32 loss)).setCell ⟨w.heap.size + 1, 3, none⟩ (.slice B n d)) := ⟨_, rfl⟩; have zF2 : F2.heap.size = U.heap.size := (by rw [hF2e]; simp); rw [← hF2e] at cb fb oB hW; rw [← hF2e]; clear hF2e; replace lb := cb.lt
    have b0 := cb 0 _ rfl; have b1 := cb 1 _ rfl; have b2 := cb 2 _ rfl; have b3 := cb 3 _ rfl
    refine bodyPost_ret (v := .tuple #[.agg #[.int .i64 mir, .complex .f32 gr.1 gr.2, .float .f32 loss, .slice B n d], .bool false]) (by simp [results, Tryz.results82, go_sem, b0, b1, b2, b3]) rfl ⟨⟨fun h => absurd h (by rw [hg]; simp), fun _ => ⟨_, _, _, rfl⟩⟩, hW⟩
  · skip
    obtain ⟨B, d, F, mm, rfl, oB, _⟩ := hp.1 hg
    clear hp
    unfold tumV
    go_upto_region 4 with fail
    have hU2 := Below.refl w2.heap.size w2
    have cu := CA.new w2 #[.int .i64 mir, .complex .f32 gr.1 gr.2, .float .f32 loss, .slice B n d] 31; have fu := FA.new w2 #[.int .i64 mir, .complex .f32 gr.1 gr.2, .float .f32 loss, .slice B n d] 31; replace cb := cb.alloc (Obj.cells #[.int .i64 mir, .complex .f32 gr.1 gr.2, .float .f32 loss, .slice B n d] 31); replace fb := fb.alloc lb (Obj.cells #[.int .i64 mir, .complex .f32 gr.1 gr.2, .float .f32 loss, .slice B n d] 31); replace hW := hW.alloc (hW.size) (Obj.cells #[.int .i64 mir, .complex .f32 gr.1 gr.2, .float .f32 loss, .slice B n d] 31); replace hU2 := hU2.alloc (hU2.size) (Obj.cells #[.int .i64 mir, .complex .f32 gr.1 gr.2, .float .f32 loss, .slice B n d] 31); obtain ⟨U, hUe⟩ : ∃ U, U = w2.alloc (Obj.cells #[.int .i64 mir, .complex .f32 gr.1 gr.2, .float .f32 loss, .slice B n d] 31) := ⟨_, rfl⟩; have zU : U.heap.size = w2.heap.size + 1 := (by rw [hUe]; simp); rw [← hUe] at cu fu cb fb hW hU2; rw [← hUe]; clear hUe; have lu := cu.lt; replace lb := cb.lt
    replace oB := owns_below oB hU2
    replace oB := oB
    have u0 := cu 0 _ rfl; have u1 := cu 1 _ rfl; have u2 := cu 2 _ rfl; have u3 := cu 3 _ rfl
    have b0 := cb 0 _ rfl; have b1 := cb 1 _ rfl; have b2 := cb 2 _ rfl; have b3 := cb 3 _ rfl
    have f0 := fb 0; have f1 := fb 1; have f2 := fb 2; have f3 := fb 3
    go_wp2
    clear b0 b1 b2 b3 u0 u1 u2 u3
    replace cb := ((((cb.put 0 (.int .i64 mir)).put 1 (.complex .f32 gr.1 gr.2)).put 2 (.float .f32 loss)).put 3 (.slice B n d)); replace fb := ((((fb.set ⟨w.heap.size + 1, 0, none⟩ (.int .i64 mir)).set ⟨w.heap.size + 1, 1, none⟩ (.complex .f32 gr.1 gr.2)).set ⟨w.heap.size + 1, 2, none⟩ (.float .f32 loss)).set ⟨w.heap.size + 1, 3, none⟩ (.slice B n d)); replace oB := (own_setp (own_setp (own_setp (own_setp oB (show w.heap.size + 1 < w1.heap.size by omega) 0 (.int .i64 mir)) (show w.heap.size + 1 < w1.heap.size by omega) 1 (.complex .f32 gr.1 gr.2)) (show w.heap.size + 1 < w1.heap.size by omega) 2 (.float .f32 loss)) (show w.heap.size + 1 < w1.heap.size by omega) 3 (.slice B n d)); replace hW := ((((hW.setCell (p := ⟨w.heap.size + 1, 0, none⟩) l1 (.int .i64 mir)).setCell (p := ⟨w.heap.size + 1, 1, none⟩) l1 (.complex .f32 gr.1 gr.2)).setCell (p := ⟨w.heap.size + 1, 2, none⟩) l1 (.float .f32 loss)).setCell (p := ⟨w.heap.size + 1, 3, none⟩) l1 (.slice B n d)); obtain ⟨F2, hF2e⟩ : ∃ F2, F2 = ((((U.setCell ⟨w.heap.size + 1, 0, none⟩ (.int .i64 mir)).setCell ⟨w.heap.size + 1, 1, none⟩ (.complex .f32 gr.1 gr.2)).setCell ⟨w.heap.size + 1, 2, none⟩ (.float .f32 loss)).setCell ⟨w.heap.size + 1, 3, none⟩ (.slice B n d)) := ⟨_, rfl⟩; have zF2 : F2.heap.size = U.heap.size := (by rw [hF2e]; simp); rw [← hF2e] at cb fb oB hW; rw [← hF2e]; clear hF2e; replace lb := cb.lt
    have b0 := cb 0 _ rfl; have b1 := cb 1 _ rfl; have b2 := cb 2 _ rfl; have b3 := cb 3 _ rfl
    refine bodyPost_ret (v := .tuple #[.agg #[.int .i64 mir, .complex .f32 gr.1 gr.2, .float .f32 loss, .slice B n d], .bool true]) (by simp [results, Tryz.results82, go_sem, b0, b1, b2, b3]) rfl ⟨⟨fun _ => ⟨B, d, rfl, owns_mono oB (by omega)⟩, fun h => absurd h (by rw [hg]; simp)⟩, hW⟩
end Go.Proofs.YthlphmojldbpkaaGreat

/- A region whose own stores hit cells that it loads: a load may be taken first where the stores wait for it. No program. -/
namespace Go.Proofs.YthlphmojldbpkaaGreat
section
variable {P : Program} {ops : Array Oper} {Q : Exit → Act → World → Prop} {md : Region.Mode} {S : World → Prop} {T : Nat → Bool}

/-- whatever order is picked: behind each operation that T does not name S holds -/
def wpAnyT (P : Program) (md : Region.Mode) (ops : Array Oper) (Q : Exit → Act → World → Prop) (S : World → Prop) (T : Nat → Bool) : Nat → Array Bool → Act → World → Prop
  | 0, l, a, w => Region.ready md ops l = [] ∧ Q .normal a w
  | n + 1, l, a, w => (Region.ready md ops l = [] → Q .normal a w) ∧
      ∀ i ∈ Region.ready md ops l, wpOp P ops Q i (fun b v => (T i = false → S v) ∧ wpAnyT P md ops Q S T n (l.setIfInBounds i true) b v) a w
theorem wpAnyT_any : ∀ (n : Nat) (l : Array Bool) (a : Act) (w : World), wpAnyT P md ops Q S T n l a w → wpAny P md ops Q n l a w
  | 0, _, _, _, h => h
  | n + 1, _, _, _, h => ⟨h.1, fun i hi => wpOp_mono (fun b v k => wpAnyT_any n _ b v k.2) (h.2 i hi)⟩
/-- number j waits for number i, itself or by others -/
def needs (md : Region.Mode) (ops : Array Oper) : Nat → Nat → Nat → Bool
  | 0, _, _ => false
  | n + 1, j, i => ((ops[j]?).map (fun o => o.after.any (fun e => Region.binds md e && (e.on == i || needs md ops n e.on i)))).getD false
/-- what has come up is closed under what it waited for -/
def Cl (md : Region.Mode) (ops : Array Oper) (l : Array Bool) : Prop := ∀ (j : Nat) (o : Oper), ops[j]? = some o → l.getD j false = true → ∀ e ∈ o.after, Region.binds md e = true → l.getD e.on false = true
def clB (md : Region.Mode) (ops : Array Oper) (l : Array Bool) : Bool := (List.range ops.size).all fun j => !(l.getD j false) || ((ops[j]?).map (fun o => o.after.all (fun e => !(Region.binds md e) || l.getD e.on false))).getD true
theorem clB_spec {l : Array Bool} (h : clB md ops l = true) : Cl md ops l := by
  intro j o hj hl e he hb
  have k := List.all_eq_true.1 h j (List.mem_range.2 (Array.getElem?_eq_some_iff.1 hj).1)
  rw [hl, hj] at k
  simp only [Bool.not_true, Bool.false_or, Option.map_some, Option.getD_some] at k
  have m := Array.all_eq_true'.1 k e he
  rw [hb] at m
  simpa using m
theorem cl_set {l : Array Bool} {j : Nat} (h : Cl md ops l) (hj : j ∈ Region.ready md ops l) : Cl md ops (l.setIfInBounds j true) := by
  obtain ⟨_, o, ho, al⟩ := mem_ready.1 hj
  intro k o' hk hl e he hb
  rcases Decidable.em (j = k) with rfl | ne
  · rw [hk] at ho
    injection ho with ho
    subst ho
    exact getD_set_true (al e he hb)
  · rw [getD_set_ne false ne] at hl
    exact getD_set_true (h k o' hk hl e he hb)
theorem needs_listed {l : Array Bool} (h : Cl md ops l) {i : Nat} : ∀ (n : Nat) (j : Nat) (o : Oper), ops[j]? = some o → (∀ e ∈ o.after, Region.binds md e = true → l.getD e.on false = true) → needs md ops n j i = true → l.getD i false = true
  | 0, _, _, _, _, k => by cases k
  | n + 1, j, o, ho, al, k => by
    unfold needs at k
    rw [ho] at k
    simp only [Option.map_some, Option.getD_some] at k
    obtain ⟨e, he, m⟩ := Array.any_eq_true'.1 k
    simp only [Bool.and_eq_true, Bool.or_eq_true, beq_iff_eq] at m
    have le := al e he m.1
    rcases m.2 with q | q
    · rw [← q]; exact le
    · cases hx : ops[e.on]? with
      | none =>
        cases n with
        | zero => cases q
        | succ n =>
          unfold needs at q
          rw [hx] at q
          cases q
      | some x => exact needs_listed h n e.on x hx (fun e' he' hb' => h e.on x hx le e' he' hb') q
/-- every operation that T names waits for number i -/
def waitsB (md : Region.Mode) (ops : Array Oper) (T : Nat → Bool) (i : Nat) : Bool := (List.range ops.size).all fun j => !(T j) || needs md ops 8 j i
theorem wpAnyT_front {i : Nat} {oi : Oper} {v : Value} (hi : ops[i]? = some oi) (hs : ∀ (j : Nat) (o : Oper) cs b, ops[j]? = some o → o.op ≠ .select cs b) (hw : waitsB md ops T i = true)
    (hQ : ∀ c a w, Q (.panic c) (a.put oi.dst v) w → Q (.panic c) a w) : ∀ (n : Nat) (l : Array Bool) (a : Act) (w : World), Cl md ops l →
      (∀ j o, ops[j]? = some o → j ≠ i → l.getD j true = false → (∀ e ∈ o.after, Region.binds md e = true → e.on ≠ i) → oi.apart ops o = true) →
      i ∈ Region.ready md ops l → YieldsIf P ops S oi v a → S w → wpAnyT P md ops Q S T n (l.setIfInBounds i true) (a.put oi.dst v) w → wpAnyT P md ops Q S T (n + 1) l a w := by
  intro n
  induction n with
  | zero =>
    intro l a w _ _ hr hy hS H
    refine ⟨fun e => absurd hr (by rw [e]; simp), fun j hj => ?_⟩
    rcases Decidable.em (j = i) with rfl | ne
    · exact hy.wpOp hi hS ⟨fun _ => hS, H⟩
    · have k := ready_mono hj ne
      rw [H.1] at k
      cases k
  | succ n ih =>
    intro l a w cl free hr hy hS H
    refine ⟨fun e => absurd hr (by rw [e]; simp), fun j hj => ?_⟩
    rcases Decidable.em (j = i) with rfl | ne
    · exact hy.wpOp hi hS ⟨fun _ => hS, H⟩
    · obtain ⟨ju, o, ho, al⟩ := mem_ready.1 hj
      have iu : ¬ l.getD i false = true := by
        have k := (mem_ready.1 hr).1
        rcases Nat.lt_or_ge i l.size with x | x
        · simp [x] at k ⊢; exact k
        · simp [Array.getElem?_eq_none x]
      have nw : ∀ e ∈ o.after, Region.binds md e = true → e.on ≠ i := fun e he hb q => iu (by rw [← q]; exact al e he hb)
      have tj : T j = false := by
        cases ht : T j
        · rfl
        · have k := List.all_eq_true.1 hw j (List.mem_range.2 (Array.getElem?_eq_some_iff.1 ho).1)
          rw [ht] at k
          exact absurd (needs_listed cl 8 j o ho al (by simpa using k)) iu
      have k := wpOp_putIf ho (free j o ho ne ju nw) (fun cs b => hs i oi cs b hi) (fun cs b => hs j o cs b ho) hQ hy (H.2 j (ready_mono hj ne))
      refine wpOp_mono (fun b u m => ⟨m.2.1, ih _ b u (cl_set cl hj) ?_ (ready_mono hr (Ne.symm ne)) m.1 (m.2.1 tj) ?_⟩) k
      · intro k' o' hk' nk ku nw'
        refine free k' o' hk' nk ?_ nw'
        rcases Decidable.em (j = k') with rfl | ne'
        · exact ju
        · rwa [getD_set_ne true ne'] at ku
      · rw [Array.setIfInBounds_comm _ _ ne]
        exact m.2.2
theorem wpAnyT_take {i : Nat} {oi : Oper} {v : Value} {n : Nat} {l : Array Bool} {a : Act} {w : World} (hi : ops[i]? = some oi) (hs : Region.noSelect ops = true) (hf : Region.free md ops l i = true)
    (hr : (Region.ready md ops l).contains i = true) (hw : (waitsB md ops T i && clB md ops l) = true) (hQ : ∀ c a w, Q (.panic c) (a.put oi.dst v) w → Q (.panic c) a w) (hy : YieldsIf P ops S oi v a) (hS : S w)
    (h : wpAnyT P md ops Q S T n (l.setIfInBounds i true) (a.put oi.dst v) w) : wpAnyT P md ops Q S T (n + 1) l a w := by
  rw [Bool.and_eq_true] at hw
  exact wpAnyT_front hi (Region.noSelect_spec hs) hw.1 hQ n l a w (clB_spec hw.2) (Region.free_spec hi hf) (by simpa using hr) hy hS h
/-- one operation alone may come up -/
theorem wpAnyT_one {i : Nat} {o : Oper} {n : Nat} {l : Array Bool} {a : Act} {w : World} (hr : Region.ready md ops l = [i]) (ho : ops[i]? = some o)
    (h : ∀ K : Act → World → Prop, Shut (∀ b v, (T i = false → S v) → ((T i = false → S v) → wpAnyT P md ops Q S T n (l.setIfInBounds i true) b v) → K b v) → if Region.wanted o (yielded ops a.tmps) = true then Oper.wp P o a w K Q else K (a.put o.dst undef) w) :
    wpAnyT P md ops Q S T (n + 1) l a w := by
  refine ⟨fun e => absurd e (by rw [hr]; simp), fun j hj => ?_⟩
  rw [hr, List.mem_singleton] at hj
  subst hj
  exact wpOp_step ho (fun K hK => h K (fun b v h1 h2 => hK b v ⟨h1, h2 h1⟩))
theorem wpAnyT_end {l : Array Bool} {a : Act} {w : World} (hr : Region.ready md ops l = []) (h : Q .normal a w) : ∀ n, wpAnyT P md ops Q S T n l a w
  | 0 => ⟨hr, h⟩
  | _ + 1 => ⟨fun _ => h, by rw [hr]; simp⟩
theorem wp_region_T {id : Nat} {a : Act} {w : World} (S : World → Prop) (T : Nat → Bool) (hm : P.follows .mixedOrders = true) (hS : S w.drew)
    (h : S w.drew → wpAnyT P .any ops Q S T ops.size (Array.replicate ops.size false) a w.drew) : (Code.region id ops true).wp P Q a w :=
  wp_region_any hm (wpAnyT_any _ _ _ _ (h hS))
end
end Go.Proofs.YthlphmojldbpkaaGreat
