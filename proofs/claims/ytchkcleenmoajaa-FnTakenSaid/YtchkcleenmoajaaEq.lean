
/- sameFloat and what is built on it answers true of one value held against itself. -/
import Derived.Test.YtchkcleenmoajaaGeo
import Derived.Laws.ComplexArith
namespace Go.Proofs.Ytchkcleenmoajaa
open Go.RowKit

/-! ### double words -/
theorem d_sw : Ieee.double.signWeight = 9223372036854775808 := by decide
theorem d_bin : Ieee.double.binade = 4503599627370496 := by decide
theorem d_inf : Ieee.double.infRung = 9218868437227405312 := by decide

def nanD (x : Nat) : Bool := (Ieee.double.read x).isNaN

theorem nanD_of {x : Nat} (h : 9218868437227405312 < x % 9223372036854775808) : nanD x = true := by
  unfold nanD Ieee.Format.read
  rw [d_sw, d_bin, d_inf]
  have h1 : ¬ x % 9223372036854775808 < 4503599627370496 := by omega
  have h2 : ¬ x % 9223372036854775808 < 9218868437227405312 := by omega
  have h3 : ¬ x % 9223372036854775808 = 9218868437227405312 := by omega
  simp [h1, h2, h3, Ieee.Datum.isNaN]

theorem ordD_nan {x : Nat} (h : nanD x = true) (y : Nat) : Ieee.double.order x y = none := by
  unfold nanD at h
  unfold Ieee.Format.order
  revert h
  cases Ieee.double.read x <;> intro h <;> simp [Ieee.Datum.isNaN] at h
  simp [Ieee.Datum.order]

theorem order_self {d : Ieee.Datum} (h : d.isNaN = false) : d.order d = some .eq := by
  cases d with
  | number s m e => simp [Ieee.Datum.order]
  | infinity s => simp [Ieee.Datum.order]
  | nan s f => simp [Ieee.Datum.isNaN] at h

theorem ordD_self {x : Nat} (h : nanD x = false) : Ieee.double.order x x = some .eq := order_self h

theorem ordD_zero {x : Nat} (h : (Ieee.double.order x 0 == some .eq) = true) : ∃ s p, Ieee.double.read x = .number s 0 p := by
  have hz : Ieee.double.read 0 = .number false 0 (-1074) := by decide
  unfold Ieee.Format.order at h
  rw [hz] at h
  revert h
  cases hr : Ieee.double.read x with
  | nan s f => intro h; simp [Ieee.Datum.order] at h
  | infinity s => intro h; cases s <;> simp [Ieee.Datum.order] at h
  | number s m p =>
    intro h
    simp only [Ieee.Datum.order, signed_zero, beq_iff_eq, Option.some.injEq, Int.compare_eq_eq] at h
    have hm : m = 0 := by
      unfold Ieee.signed at h
      rw [Nat.shiftLeft_eq] at h
      have h2 : m * 2 ^ (p - min p (-1074)).toNat = 0 := by
        revert h
        split <;> intro h <;> omega
      rcases Nat.mul_eq_zero.1 h2 with h3 | h3
      · exact h3
      · exact absurd h3 (Nat.pos_iff_ne_zero.1 (Nat.two_pow_pos _))
    subst hm
    exact ⟨s, p, rfl⟩

theorem divD_zero {x : Nat} (h : (Ieee.double.order x 0 == some .eq) = true) : ∃ r, floatBits .quo .f64 4607182418800017408 x = some r := by
  obtain ⟨s, p, hr⟩ := ordD_zero h
  have h1 : Ieee.double.read 4607182418800017408 = .number false 4503599627370496 (-52) := by decide
  refine ⟨Ieee.double.write (.infinity (false ^^ s)), ?_⟩
  show Ieee.double.div _ _ = _
  unfold Ieee.Format.div
  rw [h1, hr]
  simp [Ieee.Datum.quotient]

/-- two double words that sameFloat takes for one -/
def SameD (a b : Nat) : Prop := a = b ∨ (nanD a = true ∧ nanD b = true)

/-! ### a float32 as a float64 -/
theorem cut_zero (s : Bool) (n : Nat) : Ieee.Toward.even.cut s n 0 = n := by
  simp [Ieee.Toward.cut, Nat.mod_one]

theorem read_range {x : Nat} {s : Bool} {m : Nat} {p : Int} (h : Ieee.single.read x = .number s m p) : m < 16777216 ∧ -149 ≤ p ∧ p ≤ 104 := by
  unfold Ieee.Format.read at h
  rw [c_sw, c_bin, c_inf] at h
  have hl : Ieee.single.leastPlace = -149 := by decide
  simp only [] at h
  split at h
  · injection h with h1 h2 h3
    subst h2 h3
    rw [hl]; omega
  · split at h
    · injection h with h1 h2 h3
      subst h2 h3
      rw [hl]; omega
    · split at h <;> cases h

theorem double_rung {s : Bool} {m : Nat} {p : Int} (h : m < 16777216 ∧ -149 ≤ p ∧ p ≤ 104) : ∃ r, Ieee.double.write (.number s m p) = Ieee.double.word s r ∧ r < 9218868437227405312 := by
  obtain ⟨h1, h2, h3⟩ := h
  show ∃ r, Ieee.double.nearest s m p = _ ∧ _
  unfold Ieee.Format.nearest
  by_cases hm : m = 0
  · exact ⟨0, by simp [hm], by omega⟩
  · have hL : m.log2 < 24 := (Nat.log2_lt hm).2 h1
    have hl : Ieee.double.leastPlace = -1074 := by decide
    have hf : Ieee.double.fractionBits = 52 := rfl
    rw [if_neg hm, hl, hf, d_bin, d_inf]
    have hlast : max (p + m.log2 - ((52 : Nat) : Int)) (-1074) = p + m.log2 - 52 := by omega
    simp only [hlast]
    have e1 : (p - (p + m.log2 - 52)).toNat = 52 - m.log2 := by omega
    have e2 : (p + m.log2 - 52 - p).toNat = 0 := by omega
    rw [e1, e2, cut_zero]
    refine ⟨_, rfl, ?_⟩
    have hk : m <<< (52 - m.log2) < 9007199254740992 := by
      rw [Nat.shiftLeft_eq]
      have a : m < 2 ^ (m.log2 + 1) := Nat.lt_log2_self
      have b : m * 2 ^ (52 - m.log2) < 2 ^ (m.log2 + 1) * 2 ^ (52 - m.log2) := Nat.mul_lt_mul_of_pos_right a (Nat.two_pow_pos _)
      rw [← Nat.pow_add, show m.log2 + 1 + (52 - m.log2) = 53 from by omega] at b
      exact b
    have hE : (p + m.log2 - 52 - -1074).toNat ≤ 1149 := by omega
    generalize m <<< (52 - m.log2) = K at hk ⊢
    generalize (p + m.log2 - 52 - -1074).toNat = E at hE ⊢
    exact Nat.lt_of_le_of_lt (Nat.min_le_left _ _) (by omega)

theorem read_word_not_inf {s : Bool} {r : Nat} (h : r < 9218868437227405312) : (Ieee.double.read (Ieee.double.word s r)).isInfinity = false := by
  have hw : Ieee.double.word s r % 9223372036854775808 = r := by
    unfold Ieee.Format.word
    rw [d_sw]
    split <;> omega
  unfold Ieee.Format.read
  rw [d_sw, d_bin, d_inf, hw]
  simp only []
  by_cases h1 : r < 4503599627370496
  · rw [if_pos h1]; rfl
  · rw [if_neg h1, if_pos h]; rfl

theorem conv_none {x : Nat} (h : floatToFloatBits .f32 x .f64 = none) : ∃ s f, FloatKind.f32.decode x = .nan s f := by
  unfold floatToFloatBits at h
  rw [if_neg (by decide)] at h
  revert h
  cases hr : FloatKind.f32.decode x with
  | nan s f => exact fun _ => ⟨s, f, rfl⟩
  | infinity s => intro h; simp at h
  | number s m e =>
    intro h
    obtain ⟨r, e1, e2⟩ := double_rung (s := s) (read_range hr)
    have e3 : (FloatKind.f64.decode (FloatKind.f64.encode (.number s m e))).isInfinity = false := by
      show (Ieee.double.read (Ieee.double.write _)).isInfinity = false
      rw [e1]
      exact read_word_not_inf e2
    simp [e3] at h

/-- what 'float64(x)' gives in world w -/
def cvB (w : World) (x : Nat) : Nat := match floatToFloatBits .f32 x .f64 with
  | some r => r
  | none => (Question.nanConv .f64 x).cut (w.tape w.drawn (.nanConv .f64 x))
/-- how often it asks the tape -/
def cvN (x : Nat) : Nat := match floatToFloatBits .f32 x .f64 with
  | some _ => 0
  | none => 1

theorem nan_cutD (t u : Nat) : 9218868437227405312 < ((t % 2) * 2 ^ 63 + 9218868437227405312 + 1 + u % (2 ^ 52 - 1)) % 9223372036854775808 := by
  have hu : u % (2 ^ 52 - 1) < 4503599627370495 := Nat.mod_lt _ (by decide)
  generalize u % (2 ^ 52 - 1) = v at *
  rcases Nat.mod_two_eq_zero_or_one t with h | h <;> rw [h] <;> omega

theorem cvB_same (w w' : World) (x : Nat) : SameD (cvB w x) (cvB w' x) := by
  unfold cvB
  cases h : floatToFloatBits .f32 x .f64 with
  | some r => exact .inl rfl
  | none =>
    exact .inr ⟨nanD_of (nan_cutD _ _), nanD_of (nan_cutD _ _)⟩

section
variable {P : Program}
theorem run_f2f (x : Nat) (w : World) : (Conv.floatToFloat .f32 x .f64).run P w = .ok (.float .f64 (cvB w x)) (w.drewN (cvN x)) := by
  unfold cvB cvN
  cases h : floatToFloatBits .f32 x .f64 with
  | some r => exact run_floatToFloat w h
  | none =>
    obtain ⟨s, f, hn⟩ := conv_none h
    have hf : (Question.nanConv .f64 x).forced = false := rfl
    simp [Conv.floatToFloat, hn, hf, World.drewN]
theorem run_conv64 (src dst : TypeId) (x : Nat) (hs : (P.underlying src).isSome = true) (hd : P.underlying dst = some (.float .f64)) (w : World) :
    (convert src dst (.float .f32 x)).run P w = .ok (.float .f64 (cvB w x)) (w.drewN (cvN x)) := by
  unfold cvB cvN
  cases h : floatToFloatBits .f32 x .f64 with
  | some r => exact run_convert_float_float w src dst .f32 .f64 x r hs hd h
  | none =>
    obtain ⟨s, f, hn⟩ := conv_none h
    obtain ⟨u, hs'⟩ := Option.isSome_iff_exists.1 hs
    have hf : (Question.nanConv .f64 x).forced = false := rfl
    cases u <;> simp [convert, run_underlying hs', run_underlying hd, Conv.floatToFloat, hn, hf, World.drewN]
theorem run_conv128 (src dst : TypeId) (x y : Nat) (hs : (P.underlying src).isSome = true) (hd : P.underlying dst = some (.complex .f64)) (w : World) :
    (convert src dst (.complex .f32 x y)).run P w = .ok (.complex .f64 (cvB w x) (cvB (w.drewN (cvN x)) y)) ((w.drewN (cvN x)).drewN (cvN y)) := by
  obtain ⟨u, hs'⟩ := Option.isSome_iff_exists.1 hs
  have h1 := fun wx => run_f2f (P := P) x wx
  have h2 := fun wx => run_f2f (P := P) y wx
  cases u <;> simp [convert, run_underlying hs', run_underlying hd, Conv.complexToComplex, h1, h2]
end
end Go.Proofs.Ytchkcleenmoajaa
