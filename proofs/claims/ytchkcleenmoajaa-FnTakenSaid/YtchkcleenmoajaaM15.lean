/- FltK · EqS · ToS · Same -/
import Derived.Test.YtchkcleenmoajaaFltM
import Derived.Test.YtchkcleenmoajaaMem
import Derived.Test.YtchkcleenmoajaaEq2
import Derived.Deep.RegionHeld3
import Derived.Laws.OwnMore
import Derived.Test.YtchkcleenmoajaaSEq

/- A float times a part: no greater; times one: the same. -/
namespace Go.Proofs.Ytchkcleenmoajaa
open Ieee

theorem cut_le {n d N : Nat} (h : n ≤ N * 2 ^ d) : Toward.even.cut false n d ≤ N := by
  unfold Toward.cut
  simp only []
  by_cases hd : d ≤ n.log2 + 2
  · rw [Nat.min_eq_left hd, Nat.one_shiftLeft]
    have hp := Nat.two_pow_pos d
    generalize 2 ^ d = G at h hp ⊢
    have hl : n / G ≤ N := Nat.div_le_of_le_mul (by rw [Nat.mul_comm]; exact h)
    by_cases e : n / G = N
    · have h1 := Nat.div_add_mod n G
      have h2 : n % G = 0 := by
        rw [e, Nat.mul_comm] at h1
        omega
      rw [h2, e]
      have c1 : decide (G < 2 * 0) = false := by simp
      have c2 : (G == 2 * 0) = false := by simp; omega
      rw [c1, c2]
      simp
    · have h5 : ∀ b : Bool, b.toNat ≤ 1 := by decide
      exact Nat.le_trans (Nat.add_le_add (Nat.le_refl _) (h5 _)) (by omega)
  · rw [Nat.min_eq_right (by omega), Nat.one_shiftLeft]
    have h4 : n < 2 ^ (n.log2 + 1) := Nat.lt_log2_self
    have h5 : 2 ^ (n.log2 + 2) = 2 * 2 ^ (n.log2 + 1) := by rw [Nat.pow_succ, Nat.mul_comm]
    rw [h5]
    generalize 2 ^ (n.log2 + 1) = G at h4 ⊢
    have h6 : n / (2 * G) = 0 := Nat.div_eq_of_lt (by omega)
    have h7 : n % (2 * G) = n := Nat.mod_eq_of_lt (by omega)
    rw [h6, h7]
    have c1 : decide (2 * G < 2 * n) = false := by simp; omega
    have c2 : (2 * G == 2 * n) = false := by simp; omega
    rw [c1, c2]
    simp
/-- the number of a rung: its digits and their place -/
theorem read_rung {x : Nat} (h : finB x = true) : ∃ (m : Nat) (u : Nat), single.read x = .number (negB x) m ((u : Int) - 149) ∧ m < 16777216 ∧ (u = 0 ∨ 8388608 ≤ m) ∧ u * 8388608 + m = rung x := by
  simp only [finB, decide_eq_true_eq] at h
  have hl : single.leastPlace = -149 := by decide
  unfold Format.read
  rw [c_sw, c_bin, c_inf, hl]
  unfold rung negB
  by_cases h1 : x % 2147483648 < 8388608
  · exact ⟨x % 2147483648, 0, by simp [h1], by omega, .inl rfl, by omega⟩
  · refine ⟨8388608 + x % 2147483648 % 8388608, x % 2147483648 / 8388608 - 1, ?_, by omega, .inr (by omega), by omega⟩
    simp only [if_neg h1]
    rw [if_pos h]
    congr 1
theorem near_zero (s : Bool) (p : Int) : single.nearest s 0 p = single.word s 0 := by unfold Format.nearest; simp
theorem near_word (s : Bool) (M : Nat) (p : Int) : single.nearest s M p = single.word s (single.nearest false M p) := by
  unfold Format.nearest
  by_cases h : M = 0
  · simp [h, Format.word]
  · simp only [if_neg h]
    have hc : ∀ (n d : Nat), Toward.even.cut s n d = Toward.even.cut false n d := fun _ _ => rfl
    rw [hc, word_false]
/-- no greater than a number that a word has: no greater word -/
theorem near_le {M m u : Nat} {j : Int} (hM : 0 < M) (hm : m < 16777216) (hu : u = 0 ∨ 8388608 ≤ m) (hj : j ≤ 0) (hMm : M ≤ m * 2 ^ (-j).toNat) : single.nearest false M ((u : Int) - 149 + j) ≤ u * 8388608 + m := by
  have hl : single.leastPlace = -149 := by decide
  have hfb : single.fractionBits = 23 := rfl
  have hL2 : 2 ^ M.log2 ≤ M := Nat.log2_self_le (by omega)
  have hlt : M < 2 ^ (M.log2 + 1) := Nat.lt_log2_self
  have hLb : M.log2 < 24 + (-j).toNat := by
    refine (Nat.log2_lt (by omega)).2 (Nat.lt_of_le_of_lt hMm ?_)
    rw [Nat.pow_add]
    exact Nat.mul_lt_mul_of_pos_right (by omega) (Nat.two_pow_pos _)
  unfold Format.nearest
  rw [if_neg (by omega), hl, hfb, c_bin, c_inf, word_false]
  try simp only []
  generalize M.log2 = L at hL2 hlt hLb ⊢
  obtain ⟨last, hlast⟩ : ∃ last : Int, last = max ((u : Int) - 149 + j + (L : Int) - (23 : Nat)) (-149) := ⟨_, rfl⟩
  rw [← hlast]
  have b1 : last ≤ (u : Int) - 149 := by omega
  have b2 : -149 ≤ last := by omega
  refine Nat.le_trans (Nat.min_le_left _ _) ?_
  by_cases he : last = (u : Int) - 149
  · have z1 : ((u : Int) - 149 + j - last).toNat = 0 := by omega
    have z2 : (last - ((u : Int) - 149 + j)).toNat = (-j).toNat := by omega
    have z3 : (last - -149).toNat = u := by omega
    rw [z1, z2, z3, Nat.shiftLeft_zero]
    have := cut_le hMm
    omega
  · have hk : Toward.even.cut false (M <<< ((u : Int) - 149 + j - last).toNat) (last - ((u : Int) - 149 + j)).toNat ≤ 16777216 := by
      refine cut_le ?_
      have h1 : M <<< ((u : Int) - 149 + j - last).toNat < 2 ^ (L + 1 + ((u : Int) - 149 + j - last).toNat) := by
        rw [Nat.shiftLeft_eq, Nat.pow_add]
        exact Nat.mul_lt_mul_of_pos_right hlt (Nat.two_pow_pos _)
      have h2 : 2 ^ (L + 1 + ((u : Int) - 149 + j - last).toNat) ≤ 2 ^ (24 + (last - ((u : Int) - 149 + j)).toNat) := Nat.pow_le_pow_right (by omega) (by omega)
      rw [Nat.pow_add 2 24] at h2
      exact Nat.le_of_lt (Nat.lt_of_lt_of_le h1 h2)
    have h3 : (last - -149).toNat + 1 ≤ u := by omega
    have h4 : 8388608 ≤ m := by rcases hu with h | h <;> omega
    generalize (last - -149).toNat = v at h3
    generalize Toward.even.cut false (M <<< ((u : Int) - 149 + j - last).toNat) (last - ((u : Int) - 149 + j)).toNat = kept at hk
    clear hlast hL2 hlt hMm
    omega

theorem near_mul_le {m n u : Nat} {j : Int} (hM : 0 < m * n) (hm : m < 16777216) (hu : u = 0 ∨ 8388608 ≤ m) (hj : j ≤ 0) (hn : n ≤ 2 ^ (-j).toNat) : single.nearest false (m * n) ((u : Int) - 149 + j) ≤ u * 8388608 + m :=
  near_le hM hm hu hj (Nat.mul_le_mul_left _ hn)
theorem clean_word {s : Bool} {r : Nat} (h : r < 2139095040) : cleanB (single.word s r) = if r = 0 then 0 else single.word s r := by
  have hm : single.word s r % 2147483648 = r := by
    unfold Format.word
    rw [c_sw]
    split <;> omega
  unfold cleanB finB zeroB
  rw [hm]
  by_cases h0 : r = 0
  · simp [h0]
  · simp [h0, h]
theorem word_rung {s : Bool} {r : Nat} (h : r < 2139095040) : rung (single.word s r) = r ∧ negB (single.word s r) = s := by
  unfold rung negB Format.word
  rw [c_sw]
  cases s
  · simp only [Bool.false_eq_true, if_false]
    have : r / 2147483648 = 0 := Nat.div_eq_of_lt (by omega)
    rw [this]
    exact ⟨by omega, rfl⟩
  · simp only [if_true]
    have : (2147483648 + r) / 2147483648 = 1 := by omega
    rw [this]
    exact ⟨by omega, rfl⟩
theorem fin_rung {x : Nat} (h : finB x = true) : rung x < 2139095040 := by
  simp only [finB, decide_eq_true_eq] at h
  exact h
/-- a float times a part is no greater, and of the same sign or nought -/
theorem mul_part {x k : Nat} (hx : finB x = true) (hk : partB k = true) : ∃ R, R ≤ rung x ∧ mulB x k = if R = 0 then 0 else single.word (negB x) R := by
  obtain ⟨m, u, ex, hm, hu, hr⟩ := read_rung hx
  have hf := fin_rung hx
  obtain ⟨k1, k2⟩ := part_rung hk
  obtain ⟨n, v, ek, hn, hv, hrk⟩ := read_rung (part_fin hk)
  have e : mulB x k = match single.mul x k with | some r => cleanB r | none => 0 := rfl
  rw [e]
  unfold Format.mul
  rw [ex, ek]
  simp only [Datum.product, Option.map_some, Format.write]
  by_cases hn0 : m * n = 0
  · refine ⟨0, Nat.zero_le _, ?_⟩
    rw [hn0, near_zero, clean_word (by omega)]
    simp
  · have hnpos : 0 < n := by
      rcases Nat.eq_zero_or_pos n with h | h
      · rw [h, Nat.mul_zero] at hn0; exact absurd rfl hn0
      · exact h
    have hs : negB k = false := by
      cases h : negB k
      · rfl
      · have := k2 h
        omega
    rw [hs, Bool.xor_false, near_word]
    have hj : (v : Int) - 149 ≤ 0 ∧ n ≤ 2 ^ (-((v : Int) - 149)).toNat := by
      have hv1 : v * 8388608 + n ≤ 1065353216 := by omega
      have hv126 : v ≤ 126 := by omega
      by_cases hv2 : v = 126
      · refine ⟨by omega, ?_⟩
        have : (-((v : Int) - 149)).toNat = 23 := by omega
        rw [this]
        omega
      · refine ⟨by omega, ?_⟩
        have h24 : 24 ≤ (-((v : Int) - 149)).toNat := by omega
        have := Nat.pow_le_pow_right (show 0 < 2 by omega) h24
        omega
    have hle := near_mul_le (m := m) (n := n) (u := u) (j := (v : Int) - 149) (by omega) hm hu hj.1 hj.2
    have ep : (u : Int) - 149 + ((v : Int) - 149) = (u : Int) - 149 + ((v : Int) - 149) := rfl
    refine ⟨single.nearest false (m * n) ((u : Int) - 149 + ((v : Int) - 149)), by omega, ?_⟩
    exact clean_word (by omega)
theorem mul_key {x k : Nat} (hx : finB x = true) (hk : partB k = true) : finB (mulB x k) = true ∧ (key (mulB x k)).natAbs ≤ (key x).natAbs := by
  obtain ⟨R, h1, h2⟩ := mul_part hx hk
  have hf := fin_rung hx
  have hkx : (key x).natAbs = rung x := by unfold key; cases negB x <;> simp
  rw [h2, hkx]
  by_cases h0 : R = 0
  · rw [if_pos h0]; exact ⟨by decide, by simp [key_nn]⟩
  · rw [if_neg h0]
    obtain ⟨w1, w2⟩ := word_rung (s := negB x) (r := R) (by omega)
    refine ⟨?_, ?_⟩
    · unfold rung at w1
      unfold finB
      rw [w1]
      simpa using by omega
    · unfold key
      rw [w1]
      cases negB (single.word (negB x) R) <;> simp <;> exact h1
end Go.Proofs.Ytchkcleenmoajaa

/- eqColourS, eqPicture answer true of slices that read alike. -/
namespace Go.Proofs.Ytchkcleenmoajaa
open Go.RowKit

end Go.Proofs.Ytchkcleenmoajaa

/- toColourS, toPicture: a copy in memory of the call's own. -/
namespace Go.Proofs.Ytchkcleenmoajaa
open Go.RowKit
attribute [local go_sem] run_store_float run_store_complex

theorem infoCol : (Try.prog.info? 27).map (fun i => (i.zero, i.size, i.bytes)) = some (some (.agg #[.float .f32 0, .float .f32 0, .float .f32 0]), 3, 12) := by kernel_rfl

/-- what is left of the budget -/
def left_ (l : Int) (n : Nat) : Int := if (n : Int) ≤ l then l - n else -1
theorem left_yes {l : Int} {n : Nat} (h : (n : Int) ≤ l) : left_ l n = l - n := if_pos h
theorem left_no {l : Int} {n : Nat} (h : ¬ (n : Int) ≤ l) : left_ l n = -1 := if_neg h

end Go.Proofs.Ytchkcleenmoajaa

/- SamePicture, both versions. -/
namespace Go.Proofs.Ytchkcleenmoajaa
open Go.RowKit

set_option maxHeartbeats 1000000 in
theorem equalCol_any (A B : Option Addr) (n m c d : Nat) (xs ys : List Col) (w : World) (hn : n ≤ maxLen) (hm : m ≤ maxLen) (ha : Rd colC 3 w w.heap.size A n xs) (hb : Rd colC 3 w w.heap.size B m ys) :
    Calls Try.prog 36 #[.slice A n c, .slice B m d] w fun e w' => e = .returned (.bool (sameCells xs ys)) ∧ Below w.heap.size w w' := by
  unfold maxLen at hn hm
  by_cases hl : n = m
  · subst hl
    go_enter Try.func36, Try.ntmps36
    go_wp2
    go_loopw [5, 13] (fun _ i wr => ∃ k : Nat, k ≤ n ∧ i = .int .i64 k ∧ (∀ (i : Nat) x y, i < k → xs[i]? = some x → ys[i]? = some y → colEqB x y = true) ∧ Below w.heap.size w wr) (fun _ i _ => n - (intOf i).toNat)
    case atStart => exact ⟨0, Nat.zero_le _, rfl, fun i x y h => by omega, Below.refl _ _⟩
    case round =>
      obtain ⟨k, hk, rfl, hall, hw⟩ := hrel
      have HALL := Lib.hid hall
      clear hall
      by_cases hlt : k < n
      · obtain ⟨b, off, r, g, l, rfl, hbl, hx, h0, h1, h2⟩ := (ha.below hw).col hlt
        obtain ⟨b', off', r', g', l', rfl, hbl', hy, h0', h1', h2'⟩ := (hb.below hw).col hlt
        have hki : (k : Int) < (n : Int) := by omega
        have hk0 : (0 : Int) ≤ (k : Int) := by omega
        have HX := Lib.hid hx
        have HY := Lib.hid hy
        clear hx hy
        have kc := fun wx => run_neq_col r g l r' g' l' wx
        have HE : ∃ q, q = colEqB (r, g, l) (r', g', l') := ⟨_, rfl⟩
        obtain ⟨q, hq⟩ := HE
        rw [← hq] at kc
        have HQ := Lib.hid hq
        clear hq
        cases q
        · go_wp2
          go_quiet (fail)
          go_wp2
          go_ret
          exact ⟨by rw [sameCells_no HX.out HY.out HQ.out.symm]; rfl, by (repeat (first | with_reducible assumption | exact Below.refl _ _ | (refine Below.setCell ?_ (by first | exact Nat.le_refl _ | (simp; done) | omega | (simp; omega)) _) | (refine below_drewN ?_ _) | (refine Below.drew ?_) | (refine Below.alloc ?_ (by first | exact Nat.le_refl _ | (simp; done) | omega | (simp; omega)) _) | (refine then_ ?_ (by with_reducible assumption)) | assumption | (refine then_ ?_ (by assumption))))⟩
        · go_wp2
          go_quiet (fail)
          go_wp2
          go_roundw
          case rel =>
            refine ⟨k + 1, by omega, by go_num, fun i x y hi j1 j2 => ?_, by (repeat (first | with_reducible assumption | exact Below.refl _ _ | (refine Below.setCell ?_ (by first | exact Nat.le_refl _ | (simp; done) | omega | (simp; omega)) _) | (refine below_drewN ?_ _) | (refine Below.drew ?_) | (refine Below.alloc ?_ (by first | exact Nat.le_refl _ | (simp; done) | omega | (simp; omega)) _) | (refine then_ ?_ (by with_reducible assumption)) | assumption | (refine then_ ?_ (by assumption))))⟩
            by_cases e : i = k
            · subst e
              rw [HX.out] at j1
              rw [HY.out] at j2
              injection j1 with j1
              injection j2 with j2
              subst j1 j2
              exact HQ.out.symm
            · exact HALL.out i x y (by omega) j1 j2
          case measure => simp [intOf]; omega
      · obtain rfl : k = n := by omega
        have hs : sameCells xs ys = true := sameCells_yes (by rw [ha.1, hb.1]) (fun i x y h1 h2 => HALL.out i x y (by have := (List.getElem?_eq_some_iff.1 h1).1; have := ha.1; omega) h1 h2)
        go_wp2
        go_ret
        exact ⟨by rw [hs]; rfl, hw⟩
  · have hs : sameCells xs ys = false := sameCells_len (by rw [ha.1, hb.1]; exact hl)
    have ht : ((n : Int) != (m : Int)) = true := by rw [bne_iff_ne]; omega
    go_enter Try.func36, Try.ntmps36
    go_wp2
    go_ret
    exact ⟨by rw [hs]; rfl, by (repeat (first | with_reducible assumption | exact Below.refl _ _ | (refine Below.setCell ?_ (by first | exact Nat.le_refl _ | (simp; done) | omega | (simp; omega)) _) | (refine below_drewN ?_ _) | (refine Below.drew ?_) | (refine Below.alloc ?_ (by first | exact Nat.le_refl _ | (simp; done) | omega | (simp; omega)) _) | (refine then_ ?_ (by with_reducible assumption)) | assumption | (refine then_ ?_ (by assumption))))⟩

set_option maxHeartbeats 1000000 in
theorem samePicture_any (A B : Option Addr) (s1 s2 : Int) (n m c d : Nat) (xs ys : List Col) (w : World) (hn : n ≤ maxLen) (hm : m ≤ maxLen) (ha : Rd colC 3 w w.heap.size A n xs) (hb : Rd colC 3 w w.heap.size B m ys) :
    Calls Try.prog 10 #[.agg #[.int .i64 s1, .slice A n c], .agg #[.int .i64 s2, .slice B m d]] w fun e w' => e = .returned (.bool (sameP s1 xs s2 ys)) ∧ Below w.heap.size w w' := by
  have r : sameP s1 xs s2 ys = (s1 == s2 && sameCells xs ys) := rfl
  cases hs : (s1 == s2)
  · rw [hs, Bool.false_and] at r
    have R := Lib.hid r
    clear r
    go_enter Try.func10, Try.ntmps10
    go_wp2
    go_ret
    exact ⟨by rw [R.out]; rfl, by (repeat (first | with_reducible assumption | exact Below.refl _ _ | (refine Below.setCell ?_ (by first | exact Nat.le_refl _ | (simp; done) | omega | (simp; omega)) _) | (refine below_drewN ?_ _) | (refine Below.drew ?_) | (refine Below.alloc ?_ (by first | exact Nat.le_refl _ | (simp; done) | omega | (simp; omega)) _) | (refine then_ ?_ (by with_reducible assumption)) | assumption | (refine then_ ?_ (by assumption))))⟩
  · rw [hs, Bool.true_and] at r
    have R := Lib.hid r
    clear r
    go_enter Try.func10, Try.ntmps10
    go_wp2_with (go_at_call 36; refine (equalCol_any _ _ _ _ _ _ xs ys _ hn hm (ha.step ?_) (hb.step ?_)).mono ?_; (repeat (first | with_reducible assumption | exact Below.refl _ _ | (refine Below.setCell ?_ (by first | exact Nat.le_refl _ | (simp; done) | omega | (simp; omega)) _) | (refine below_drewN ?_ _) | (refine Below.drew ?_) | (refine Below.alloc ?_ (by first | exact Nat.le_refl _ | (simp; done) | omega | (simp; omega)) _) | (refine then_ ?_ (by with_reducible assumption)) | assumption | (refine then_ ?_ (by assumption)))); rintro e w' ⟨rfl, hb1⟩)
    go_ret
    exact ⟨by rw [R.out]; rfl, by (repeat (first | with_reducible assumption | exact Below.refl _ _ | (refine Below.setCell ?_ (by first | exact Nat.le_refl _ | (simp; done) | omega | (simp; omega)) _) | (refine below_drewN ?_ _) | (refine Below.drew ?_) | (refine Below.alloc ?_ (by first | exact Nat.le_refl _ | (simp; done) | omega | (simp; omega)) _) | (refine then_ ?_ (by with_reducible assumption)) | assumption | (refine then_ ?_ (by assumption))))⟩

end Go.Proofs.Ytchkcleenmoajaa
