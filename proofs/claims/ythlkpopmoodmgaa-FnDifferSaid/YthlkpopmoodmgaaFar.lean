
/- FarColours, both versions. -/
import Derived.Test.YthlkpopmoodmgaaCol
import Derived.Test.YthlkpopmoodmgaaEq2
import Derived.Test.YthlkpopmoodmgaaFlt
import Derived.StillTailTactics
namespace Go.Proofs.Ythlkpopmoodmgaa
open Go.RowKit
attribute [local go_sem] run_store_float run_store_complex

theorem quiet_dr {P : Program} {f : FuncId} {args : Array Value} {w : World} {n : Nat} {v : Value}
    (h : Calls P f args (w.drewN n) fun e w' => e = .returned v ∧ Dr (w.drewN n) w') : Calls P f args (w.drewN n) fun e w'' => e = .returned v ∧ ∃ m, w'' = w.drewN m :=
  h.mono fun _ _ ⟨he, m, hm⟩ => ⟨he, n + m, by rw [← hm, World.drewN_drewN]⟩

/-- how far two parts are from each other -/
def farP (x y : Nat) : Nat := if ltB x y then subB y x else subB x y
def maxB (x y : Nat) : Nat := if gtB y x then y else x
def farB (a b : Col) : Nat := if colB a && colB b then maxB (maxB (farP a.1 b.1) (farP a.2.1 b.2.1)) (farP a.2.2 b.2.2) else 0

theorem farP_nn {x y : Nat} (hx : finB x = true) (hy : finB y = true) : farP x y < 2139095040 := by
  unfold farP
  rw [ltB_fin hx hy]
  split
  · rename_i h
    have := of_decide_eq_true h
    exact subB_nn hy hx (by omega)
  · rename_i h
    simp at h
    exact subB_nn hx hy h
theorem fin_nn {x : Nat} (h : x < 2139095040) : finB x = true := by
  unfold finB; simp only [decide_eq_true_eq]; omega
theorem maxB_nn {x y : Nat} (hx : x < 2139095040) (hy : y < 2139095040) : maxB x y < 2139095040 := by
  unfold maxB; split <;> assumption
theorem maxB_max {x y : Nat} (hx : x < 2139095040) (hy : y < 2139095040) : maxB x y = max x y := by
  unfold maxB
  rw [gtB_fin (fin_nn hy) (fin_nn hx), key_nn (by omega), key_nn (by omega)]
  simp only [decide_eq_true_eq]
  split <;> omega
theorem decode_nn {x : Nat} (hx : x < 2139095040) : (FloatKind.f32.decode x).neg = false := by
  obtain ⟨m, p, e, _, _⟩ := read_val (fin_nn hx)
  show (Ieee.single.read x).neg = false
  rw [e]
  have h0 : x / 2147483648 = 0 := Nat.div_eq_of_lt (by omega)
  simp [Ieee.Datum.neg, negB, h0]
section
variable {P : Program} (w : World)
theorem run_max2_nn {x y : Nat} (hx : x < 2139095040) (hy : y < 2139095040) : (Builtin.max2 (.float .f32 x) (.float .f32 y)).run P w = .ok (.float .f32 (maxB x y)) w := by
  have ho : FloatKind.f32.format.order x y = some (compare (key x) (key y)) := ord_fin (fin_nn hx) (fin_nn hy)
  have hm : maxB x y = max x y := maxB_max hx hy
  rw [hm]
  rw [key_nn (by omega), key_nn (by omega)] at ho
  unfold Builtin.max2
  simp only [ho]
  rcases Nat.lt_trichotomy x y with h | h | h
  · have : compare (x : Int) (y : Int) = .lt := Int.compare_eq_lt.2 (by omega)
    rw [this]
    simp only [Sem.run_pure]
    rw [Nat.max_eq_right (by omega)]
  · subst h
    have : compare (x : Int) (x : Int) = .eq := Int.compare_eq_eq.2 rfl
    rw [this]
    simp only [decode_nn hx]
    simp
  · have : compare (x : Int) (y : Int) = .gt := Int.compare_eq_gt.2 (by omega)
    rw [this]
    simp only [Sem.run_pure]
    rw [Nat.max_eq_left (by omega)]
theorem run_max_nn2 (ts : Array TypeId) (t : TypeId) {x y : Nat} (hx : x < 2139095040) (hy : y < 2139095040) : (Builtin.max_ ts t #[.float .f32 x, .float .f32 y]).run P w = .ok (.float .f32 (maxB x y)) w := by
  simp [Builtin.max_, run_max2_nn w hx hy]
theorem run_max_nn3 (ts : Array TypeId) (t : TypeId) {x y z : Nat} (hx : x < 2139095040) (hy : y < 2139095040) (hz : z < 2139095040) : (Builtin.max_ ts t #[.float .f32 x, .float .f32 y, .float .f32 z]).run P w = .ok (.float .f32 (maxB (maxB x y) z)) w := by
  simp [Builtin.max_, run_max2_nn w hx hy, run_max2_nn w (maxB_nn hx hy) hz]
end

theorem farF_any (x y : Nat) (w : World) :
    Calls Try.prog 105 #[.float .f32 x, .float .f32 y] w fun e w' => e = .returned (.float .f32 (farP x y)) ∧ Dr w w' := by
  have r : farP x y = if ltB x y then subB y x else subB x y := rfl
  cases h : ltB x y
  all_goals
    rw [h] at r
    have R := Lib.hid r
    clear r
    have e1 : (FloatKind.f32.format.order x y == some .lt) = ltB x y := rfl
    rw [h] at e1
    clear h
    go_enter Try.func105, Try.ntmps105
    go_wp2_with (go_at_call 106; refine (diff_any _ _ _).mono ?_; rintro e w' ⟨rfl, n, rfl⟩)
    go_ret
    exact ⟨by rw [R.out]; rfl, Dr.drewN _ _⟩
theorem l2Far_any (x y : Nat) (w : World) :
    Calls Try.prog 102 #[.float .f32 x, .float .f32 y] w fun e w' => e = .returned (.float .f32 (farP x y)) ∧ Dr w w' := by
  have r : farP x y = if ltB x y then subB y x else subB x y := rfl
  cases h : ltB x y
  all_goals
    rw [h] at r
    have R := Lib.hid r
    clear r
    have e1 : (FloatKind.f32.format.order x y == some .lt) = ltB x y := rfl
    rw [h] at e1
    clear h
    go_enter Try.func102, Try.ntmps102
    go_wp2_with (go_at_call 125; refine (l1Minus_any _ _ _).mono ?_; rintro e w' ⟨rfl, n, rfl⟩)
    go_ret
    exact ⟨by rw [R.out]; rfl, Dr.drewN _ _⟩

set_option maxHeartbeats 2000000 in
theorem greatest_any (r g b : Nat) (w : World) :
    Calls Try.prog 103 #[.agg #[.float .f32 r, .float .f32 g, .float .f32 b]] w fun e w' => e = .returned (.float .f32 (maxB (maxB r g) b)) ∧ Below w.heap.size w w' := by
  have q1 : maxB r g = if gtB g r then g else r := rfl
  cases h1 : gtB g r
  all_goals
    rw [h1] at q1
    have e1 : (FloatKind.f32.format.order g r == some .gt) = gtB g r := rfl
    rw [h1] at e1
    obtain ⟨m, hm⟩ : ∃ m, m = maxB r g := ⟨_, rfl⟩
    rw [← hm] at q1 ⊢
    clear hm
    have hm : m = _ := q1
    simp only [Bool.false_eq_true, if_false, if_true] at hm
    subst hm
    have q2 : maxB m b = if gtB b m then b else m := rfl
    cases h2 : gtB b m
    all_goals
      rw [h2] at q2
      have e2 : (FloatKind.f32.format.order b m == some .gt) = gtB b m := rfl
      rw [h2] at e2
      have R := Lib.hid q2
      clear q1 q2 h1 h2
      go_enter Try.func103, Try.ntmps103
      go_wp2
      go_ret
      exact ⟨by rw [R.out]; rfl, by (repeat (first | with_reducible assumption | exact Below.refl _ _ | (refine Below.setCell ?_ (by first | exact Nat.le_refl _ | (simp; done) | omega | (simp; omega)) _) | (refine below_drewN ?_ _) | (refine Below.drew ?_) | (refine Below.alloc ?_ (by first | exact Nat.le_refl _ | (simp; done) | omega | (simp; omega)) _) | (refine then_ ?_ (by with_reducible assumption)) | assumption | (refine then_ ?_ (by assumption))))⟩
end Go.Proofs.Ythlkpopmoodmgaa
