
/- Clean words: a key has one clean word; sums with nothing. No program. -/
import Derived.Test.YtdjbpbolliphkaaFltN
namespace Go.Proofs.Ytdjbpbolliphkaa
open Ieee

/-- a finite word without a needless sign or bits above -/
def cw (x : Nat) : Prop := finB x = true ∧ x = mk (negB x) (rung x)
theorem mk_cw {s : Bool} {r : Nat} (h : r < 2139095040) : cw (mk s r) := by
  obtain ⟨h1, h2⟩ := mk_key (s := s) h
  refine ⟨h2, ?_⟩
  unfold mk
  by_cases h0 : r = 0
  · subst h0
    rw [if_pos rfl]
    decide
  · rw [if_neg h0]
    obtain ⟨w1, w2⟩ := word_rung (s := s) h
    rw [w1, w2, if_neg h0]
theorem rung_key (x : Nat) : rung x = (key x).natAbs := by unfold key; cases negB x <;> simp
theorem cw_ext {x y : Nat} (hx : cw x) (hy : cw y) (h : key x = key y) : x = y := by
  have hr : rung x = rung y := by rw [rung_key, rung_key, h]
  rw [hx.2, hy.2, hr]
  by_cases h0 : rung y = 0
  · unfold mk; rw [if_pos h0, if_pos h0]
  · have hs : negB x = negB y := by
      unfold key at h
      rw [hr] at h
      cases h1 : negB x <;> cases h2 : negB y <;> rw [h1, h2] at h <;> simp at h <;> first | rfl | omega
    rw [hs]
theorem cleanB_cw {x : Nat} (hx : finB x = true) (hw : x < 4294967296) : cw (cleanB x) := by
  unfold cleanB
  rw [hx]
  cases hz : zeroB x
  · simp only [Bool.not_false, Bool.and_true, if_true]
    refine ⟨hx, ?_⟩
    have h0 : ¬ rung x = 0 := by unfold zeroB at hz; simpa [rung] using hz
    unfold mk
    rw [if_neg h0]
    unfold Format.word
    rw [c_sw]
    unfold negB rung
    by_cases hb : x < 2147483648
    · have e : x / 2147483648 = 0 := Nat.div_eq_of_lt hb
      rw [e]
      simp
      omega
    · have e : x / 2147483648 = 1 := by omega
      rw [e]
      simp
      omega
  · simp only [Bool.not_true, Bool.and_false, Bool.false_eq_true, if_false]
    exact ⟨by decide, by decide⟩
theorem cw_lt {x : Nat} (h : cw x) : x < 4294967296 := by
  rw [h.2]
  have hf := fin_rung h.1
  unfold mk
  split
  · omega
  · unfold Format.word
    rw [c_sw]
    split <;> omega
theorem word_cw {s : Bool} {R : Nat} (h : R ≤ 2139095040) : cw (cleanB (single.word s R)) := by
  by_cases h1 : R = 2139095040
  · subst h1
    cases s
    · have : cleanB (single.word false 2139095040) = 0 := by decide
      rw [this]; exact ⟨by decide, by decide⟩
    · have : cleanB (single.word true 2139095040) = 0 := by decide
      rw [this]; exact ⟨by decide, by decide⟩
  · rw [clean_word (by omega)]
    exact mk_cw (by omega)
theorem neg_cw {y : Nat} (hy : finB y = true) : cw (subB 0 y) := by
  rw [neg_sub hy]
  exact mk_cw (fin_rung hy)

theorem add_zero {y : Nat} (hy : finB y = true) : addB y 0 = mk (negB y) (rung y) := by
  obtain ⟨m, u, ey, hm, hu, hr⟩ := read_rung hy
  have hf := fin_rung hy
  have e : addB y 0 = match single.add y 0 with | some r => cleanB r | none => 0 := rfl
  rw [e]
  unfold Format.add
  rw [read_zero, ey]
  simp only [Datum.sum, Option.map_some, Format.write]
  have hmin : min ((u : Int) - 149) (-149 : Int) = -149 := by omega
  rw [hmin]
  have t1 : ((u : Int) - 149 - -149).toNat = u := by omega
  rw [signed_zero, t1, Int.add_zero]
  by_cases h0 : m = 0
  · have hu0 : u = 0 := by rcases hu with h | h <;> omega
    have hr0 : rung y = 0 := by omega
    subst h0 hu0
    have hs : signed (negB y) 0 0 = 0 := by unfold signed; simp
    rw [hs, hr0]
    simp only [Int.natAbs_zero, near_zero, if_true]
    rw [clean_word (by omega)]
    simp [mk]
  · have hpos : 0 < m <<< u := by rw [Nat.shiftLeft_eq]; exact Nat.mul_pos (by omega) (Nat.two_pow_pos _)
    obtain ⟨M, hM⟩ : ∃ M, M = m <<< u := ⟨_, rfl⟩
    have hsv : ∀ s : Bool, signed s m u = if s then -(M : Int) else (M : Int) := fun s => by unfold signed; rw [← hM]
    rw [← hM] at hpos
    have hab : (signed (negB y) m u).natAbs = m <<< u := by rw [hsv, ← hM]; cases negB y <;> simp
    have hne : signed (negB y) m u ≠ 0 := by rw [hsv]; cases negB y <;> simp <;> omega
    have hsg : decide (signed (negB y) m u < 0) = negB y := by
      rw [hsv]
      cases negB y
      · simp
      · simp; omega
    rw [if_neg hne, hsg, hab, near_word]
    have hx := near_exact (m := m) (u := u) (v := 0) (by omega) hm hu (by omega) (Nat.zero_le _)
    rw [Nat.sub_zero] at hx
    have e149 : ((0 : Nat) : Int) - 149 = -149 := by omega
    rw [e149] at hx
    rw [hx, hr, clean_word hf]
    rfl
theorem add_key {y : Nat} (hy : finB y = true) : key (addB y 0) = key y ∧ finB (addB y 0) = true ∧ cw (addB y 0) := by
  rw [add_zero hy]
  obtain ⟨h1, h2⟩ := mk_key (s := negB y) (fin_rung hy)
  exact ⟨by rw [h1]; rfl, h2, mk_cw (fin_rung hy)⟩
theorem ge_le {x y : Nat} (hx : finB x = true) (hy : finB y = true) : geB x y = leB y x := by
  unfold geB leB
  rw [ord_fin hx hy, ord_fin hy hx]
  rcases Int.lt_trichotomy (key x) (key y) with h | h | h
  · rw [Int.compare_eq_lt.2 h, Int.compare_eq_gt.2 h]; rfl
  · rw [Int.compare_eq_eq.2 h, Int.compare_eq_eq.2 h.symm]; rfl
  · rw [Int.compare_eq_gt.2 h, Int.compare_eq_lt.2 h]; rfl
end Go.Proofs.Ytdjbpbolliphkaa
