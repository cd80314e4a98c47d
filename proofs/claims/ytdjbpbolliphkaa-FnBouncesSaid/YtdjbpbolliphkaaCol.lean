
/- IsColour, both versions. -/
import Derived.Test.YtdjbpbolliphkaaMem
namespace Go.Proofs.Ytdjbpbolliphkaa
open Go.RowKit

def partB (x : Nat) : Bool := geB x 0 && leB x 1065353216
def colB (c : Col) : Bool := partB c.1 && (partB c.2.1 && partB c.2.2)

theorem part_fin {x : Nat} (h : partB x = true) : finB x = true := by
  rcases three x with h1 | h1 | h1
  · exact h1
  · exfalso
    have e := read_inf h1
    have r1 : Ieee.single.read 1065353216 = .number false 8388608 (-23) := by decide
    simp only [partB, geB, leB, ordB, Ieee.Format.order, e, r1, read_zero, Ieee.Datum.order] at h
    cases hs : (x / 2147483648 % 2 == 1) <;> rw [hs] at h <;> revert h <;> decide
  · exfalso
    unfold partB geB leB at h
    rw [ord_nan_left h1] at h
    simp at h

theorem isPart_any (x : Nat) (w : World) :
    Calls Try.prog 40 #[.float .f32 x] w fun e w' => e = .returned (.bool (partB x)) ∧ w = w' := by
  have r : partB x = (geB x 0 && leB x 1065353216) := rfl
  cases h1 : geB x 0
  all_goals
    rw [h1] at r
    have e1 : (FloatKind.f32.format.order x 0 == some .gt || FloatKind.f32.format.order x 0 == some .eq) = geB x 0 := rfl
    rw [h1] at e1
    have R := Lib.hid r
    clear r h1
    go_enter Try.func40, Try.ntmps40
    go_wp2
    go_ret
    exact ⟨by rw [R.out]; simp [leB, ordB, FloatKind.format], rfl⟩

theorem l2Part_any (x : Nat) (w : World) :
    Calls Try.prog 65 #[.float .f32 x] w fun e w' => e = .returned (.bool (partB x)) ∧ Dr w w' := by
  cases hf : finB x
  · have hp : partB x = false := by
      cases h : partB x
      · rfl
      · rw [part_fin h] at hf; cases hf
    have R := Lib.hid hp
    clear hp
    go_enter Try.func65, Try.ntmps65
    go_wp2_with (go_at_call 72; refine (l1Single_any _ _).mono ?_; rintro e w' ⟨rfl, n, rfl⟩; simp only [hf])
    go_ret
    exact ⟨by rw [R.out]; rfl, Dr.drewN _ _⟩
  · have r : partB x = (geB x 0 && leB x 1065353216) := rfl
    cases h1 : geB x 0
    all_goals
      rw [h1] at r
      have e1 : (FloatKind.f32.format.order x 0 == some .gt || FloatKind.f32.format.order x 0 == some .eq) = geB x 0 := rfl
      rw [h1] at e1
      have R := Lib.hid r
      clear r h1
      go_enter Try.func65, Try.ntmps65
      go_wp2_with (go_at_call 72; refine (l1Single_any _ _).mono ?_; rintro e w' ⟨rfl, n, rfl⟩; simp only [hf])
      go_ret
      exact ⟨by rw [R.out]; simp [leB, ordB, FloatKind.format], Dr.drewN _ _⟩

end Go.Proofs.Ytdjbpbolliphkaa
