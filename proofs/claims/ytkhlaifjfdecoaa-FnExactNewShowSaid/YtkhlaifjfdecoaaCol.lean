
/- IsColour, both versions. -/
import Derived.Test.YtkhlaifjfdecoaaMem
namespace Go.Proofs.Ytkhlaifjfdecoaa
open Go.RowKit

def partB (x : Nat) : Bool := geB x 0 && leB x 1065353216
def colB (c : Col) : Bool := partB c.1 && (partB c.2.1 && partB c.2.2)

theorem part_fin {x : Nat} (h : partB x = true) : finB x = true := by
  rcases three x with h1 | h1 | h1
  · exact h1
  · exfalso
    have e := read_inf h1
    have r1 : Ieee.single.read 1065353216 = .number false 8388608 (-23) := by decide
    simp only [partB, geB, leB, ordB, Ieee.Format.order, e, r1, read_zero, Ieee.Datum.order] at h
    cases hs : (x / 2147483648 % 2 == 1) <;> rw [hs] at h <;> revert h <;> decide
  · exfalso
    unfold partB geB leB at h
    rw [ord_nan_left h1] at h
    simp at h

theorem isPart_any (x : Nat) (w : World) :
    Calls Try.prog 48 #[.float .f32 x] w fun e w' => e = .returned (.bool (partB x)) ∧ w = w' := by
  have r : partB x = (geB x 0 && leB x 1065353216) := rfl
  cases h1 : geB x 0
  all_goals
    rw [h1] at r
    have e1 : (FloatKind.f32.format.order x 0 == some .gt || FloatKind.f32.format.order x 0 == some .eq) = geB x 0 := rfl
    rw [h1] at e1
    have R := Lib.hid r
    clear r h1
    go_enter Try.func48, Try.ntmps48
    go_wp2
    go_ret
    exact ⟨by rw [R.out]; simp [leB, ordB, FloatKind.format], rfl⟩

theorem l2Part_any (x : Nat) (w : World) :
    Calls Try.prog 43 #[.float .f32 x] w fun e w' => e = .returned (.bool (partB x)) ∧ Dr w w' := by
  cases hf : finB x
  · have hp : partB x = false := by
      cases h : partB x
      · rfl
      · rw [part_fin h] at hf; cases hf
    have R := Lib.hid hp
    clear hp
    go_enter Try.func43, Try.ntmps43
    go_wp2_with (go_at_call 24; refine (l1Single_any _ _).mono ?_; rintro e w' ⟨rfl, n, rfl⟩; simp only [hf])
    go_ret
    exact ⟨by rw [R.out]; rfl, Dr.drewN _ _⟩
  · have r : partB x = (geB x 0 && leB x 1065353216) := rfl
    cases h1 : geB x 0
    all_goals
      rw [h1] at r
      have e1 : (FloatKind.f32.format.order x 0 == some .gt || FloatKind.f32.format.order x 0 == some .eq) = geB x 0 := rfl
      rw [h1] at e1
      have R := Lib.hid r
      clear r h1
      go_enter Try.func43, Try.ntmps43
      go_wp2_with (go_at_call 24; refine (l1Single_any _ _).mono ?_; rintro e w' ⟨rfl, n, rfl⟩; simp only [hf])
      go_ret
      exact ⟨by rw [R.out]; simp [leB, ordB, FloatKind.format], Dr.drewN _ _⟩

set_option maxHeartbeats 1000000 in
theorem isColour_any (r g b : Nat) (w : World) :
    Calls Try.prog 31 #[.agg #[.float .f32 r, .float .f32 g, .float .f32 b]] w fun e w' => e = .returned (.bool (colB (r, g, b))) ∧ Below w.heap.size w w' := by
  have q : colB (r, g, b) = (partB r && (partB g && partB b)) := rfl
  cases h1 : partB r <;> cases h2 : partB g
  all_goals
    rw [h1, h2] at q
    have R := Lib.hid q
    clear q
    go_enter Try.func31, Try.ntmps31
    go_wp2_with (go_at_call 48; refine (isPart_any _ _).mono ?_; rintro e w' ⟨rfl, rfl⟩; try simp only [h1, h2])
    go_ret
    exact ⟨by rw [R.out]; simp, by (repeat (first | with_reducible assumption | exact Below.refl _ _ | (refine Below.setCell ?_ (by first | exact Nat.le_refl _ | (simp; done) | omega | (simp; omega)) _) | (refine below_drewN ?_ _) | (refine Below.drew ?_) | (refine Below.alloc ?_ (by first | exact Nat.le_refl _ | (simp; done) | omega | (simp; omega)) _) | (refine then_ ?_ (by with_reducible assumption)) | assumption | (refine then_ ?_ (by assumption))))⟩

set_option maxHeartbeats 1000000 in
theorem specIsColour_any (r g b : Nat) (w : World) :
    Calls Try.prog 25 #[.agg #[.float .f32 r, .float .f32 g, .float .f32 b]] w fun e w' => e = .returned (.bool (colB (r, g, b))) ∧ Below w.heap.size w w' := by
  have q : colB (r, g, b) = (partB r && (partB g && partB b)) := rfl
  cases h1 : partB r <;> cases h2 : partB g
  all_goals
    rw [h1, h2] at q
    have R := Lib.hid q
    clear q
    go_enter Try.func25, Try.ntmps25
    go_wp2_with (go_at_call 43; refine (l2Part_any _ _).mono ?_; rintro e w' ⟨rfl, n, rfl⟩; try simp only [h1, h2])
    go_ret
    exact ⟨by rw [R.out]; simp, by (repeat (first | with_reducible assumption | exact Below.refl _ _ | (refine Below.setCell ?_ (by first | exact Nat.le_refl _ | (simp; done) | omega | (simp; omega)) _) | (refine below_drewN ?_ _) | (refine Below.drew ?_) | (refine Below.alloc ?_ (by first | exact Nat.le_refl _ | (simp; done) | omega | (simp; omega)) _) | (refine then_ ?_ (by with_reducible assumption)) | assumption | (refine then_ ?_ (by assumption))))⟩
end Go.Proofs.Ytkhlaifjfdecoaa
