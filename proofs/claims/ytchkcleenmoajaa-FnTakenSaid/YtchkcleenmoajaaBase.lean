
/- The smallest functions: ranges, single operations on float32 words. -/
import Derived.Test.YtchkcleenmoajaaRows
import Derived.Test.YtchkcleenmoajaaFp
import Derived.WalkKit
import Derived.WalkSpells
import Derived.WalkLawsBesides
import Derived.Handy
import Derived.Lib.Hide
import Derived.Deep.QuietTactic
import Derived.BigQuiet
namespace Go.Proofs.Ytchkcleenmoajaa
open Go.RowKit

def inB (n lo hi : Int) : Bool := decide (lo ≤ n ∧ n ≤ hi)
def Dr (w w' : World) : Prop := ∃ n, w.drewN n = w'
theorem Dr.refl (w : World) : Dr w w := ⟨0, rfl⟩

theorem within_any (n lo hi : Int) (w : World) :
    Calls Try.prog 29 #[.int .i64 n, .int .i64 lo, .int .i64 hi] w fun e w' => e = .returned (.bool (inB n lo hi)) ∧ w = w' := by
  by_cases h1 : lo ≤ n <;> by_cases h2 : n ≤ hi
  all_goals
    go_enter Try.func29, Try.ntmps29
    go_wp2
    go_ret
    exact ⟨by simp [inB, h1, h2], rfl⟩
section
variable {P : Program} (w : World)
theorem run_float_nan (op : BinOp) (hop : op = .add ∨ op = .sub ∨ op = .mul) (t : TypeId) (x y : Nat) (h : floatBits op .f32 x y = none) :
    ∃ b, nanB b = true ∧ (binOp op t (.float .f32 x) (.float .f32 y)).run P w = .ok (.float .f32 b) w.drew := by
  refine ⟨(Question.nanBits .f32 x y).cut (w.tape w.drawn (.nanBits .f32 x y)), ?_, ?_⟩
  · simp only [Question.cut]
    exact nan_cut _ _
  · unfold floatBits at h
    have hf : (Question.nanBits .f32 x y).forced = false := rfl
    rcases hop with rfl | rfl | rfl <;> simp only at h <;> simp [binOp, Op.floatArith, h, hf]
end

theorem isSingle_any (x : Nat) (w : World) :
    Calls Try.prog 66 #[.float .f32 x] w fun e w' => e = .returned (.bool (finB x)) ∧ Dr w w' := by
  cases h : finB x
  · obtain ⟨b, hb, hr⟩ := run_float_nan (P := Try.prog) w .sub (.inr (.inl rfl)) 25 x x (sub_self_not h)
    have ho : FloatKind.f32.format.order b 0 = none := ord_nan_left hb 0
    go_enter Try.func66, Try.ntmps66
    go_wp2
    go_ret
    exact ⟨rfl, 1, rfl⟩
  · have hr := fun wx => run_float_arith (P := Try.prog) wx .sub 25 .f32 x x 0 (sub_self_fin h)
    have ho : FloatKind.f32.format.order 0 0 = some .eq := by decide
    go_enter Try.func66, Try.ntmps66
    go_wp2
    go_ret
    exact ⟨rfl, Dr.refl _⟩
theorem Dr.trans {a b c : World} (h : Dr a b) (k : Dr b c) : Dr a c := by
  obtain ⟨n, rfl⟩ := h
  obtain ⟨m, rfl⟩ := k
  exact ⟨n + m, by rw [World.drewN_drewN]⟩
theorem Dr.drew (w : World) : Dr w w.drew := ⟨1, rfl⟩
theorem Dr.drewN (w : World) (n : Nat) : Dr w (w.drewN n) := ⟨n, rfl⟩

theorem clean_any (x : Nat) (w : World) :
    Calls Try.prog 52 #[.float .f32 x] w fun e w' => e = .returned (.float .f32 (cleanB x)) ∧ Dr w w' := by
  have hz0 := eqB_zero x
  cases hz : zeroB x
  · have ho : (FloatKind.f32.format.order x 0 == some .eq) = false := by rw [hz] at hz0; exact hz0
    clear hz0
    cases hf : finB x
    all_goals
      have r : cleanB x = if finB x && !zeroB x then x else 0 := rfl
      rw [hf, hz] at r
      have R := Lib.hid r
      clear r
      go_enter Try.func52, Try.ntmps52
      go_wp2_with (go_at_call 66; refine (isSingle_any _ _).mono ?_; rintro e w' ⟨rfl, n, rfl⟩; try simp only [hf])
      go_ret
      exact ⟨by rw [R.out]; rfl, Dr.drewN _ _⟩
  · have ho : (FloatKind.f32.format.order x 0 == some .eq) = true := by rw [hz] at hz0; exact hz0
    have r : cleanB x = if finB x && !zeroB x then x else 0 := rfl
    rw [hz] at r
    have R := Lib.hid r
    clear r hz0
    go_enter Try.func52, Try.ntmps52
    go_wp2
    go_ret
    exact ⟨by rw [R.out]; simp, Dr.refl _⟩

theorem l1Clean_any (x : Nat) (w : World) :
    Calls Try.prog 75 #[.float .f32 x] w fun e w' => e = .returned (.float .f32 (cleanB x)) ∧ Dr w w' := by
  have hz0 := eqB_zero x
  cases hz : zeroB x
  · have ho : (FloatKind.f32.format.order x 0 == some .eq) = false := by rw [hz] at hz0; exact hz0
    clear hz0
    have r : cleanB x = if finB x && !zeroB x then x else 0 := rfl
    cases hf : finB x
    · rw [hf, hz] at r
      have R := Lib.hid r
      clear r
      obtain ⟨b, hb, hr⟩ := run_float_nan (P := Try.prog) w .sub (.inr (.inl rfl)) 25 x x (sub_self_not hf)
      have hn : (FloatKind.f32.format.order b 0 != some .eq) = true := by
        have := ord_nan_left hb 0
        unfold ordB at this
        simp [FloatKind.format, this]
      go_enter Try.func75, Try.ntmps75
      go_wp2
      go_ret
      exact ⟨by rw [R.out]; rfl, 1, rfl⟩
    · rw [hf, hz] at r
      have R := Lib.hid r
      clear r
      have hr := fun wx => run_float_arith (P := Try.prog) wx .sub 25 .f32 x x 0 (sub_self_fin hf)
      have hn : (FloatKind.f32.format.order 0 0 != some .eq) = false := by decide
      go_enter Try.func75, Try.ntmps75
      go_wp2
      go_ret
      exact ⟨by rw [R.out]; rfl, Dr.refl _⟩
  · have ho : (FloatKind.f32.format.order x 0 == some .eq) = true := by rw [hz] at hz0; exact hz0
    have r : cleanB x = if finB x && !zeroB x then x else 0 := rfl
    rw [hz] at r
    have R := Lib.hid r
    clear r hz0
    go_enter Try.func75, Try.ntmps75
    go_wp2
    go_ret
    exact ⟨by rw [R.out]; simp, Dr.refl _⟩

theorem arB_some {op : BinOp} {x y r : Nat} (h : floatBits op .f32 x y = some r) : arB op x y = cleanB r := by simp [arB, h]
theorem arB_none {op : BinOp} {x y : Nat} (h : floatBits op .f32 x y = none) : arB op x y = 0 := by simp [arB, h]
theorem cleanB_nan {b : Nat} (h : nanB b = true) : cleanB b = 0 := by
  have hf : finB b = false := by simp only [finB, nanB, decide_eq_true_eq, decide_eq_false_iff_not] at *; omega
  simp [cleanB, hf]
theorem sum_any (x y : Nat) (w : World) :
    Calls Try.prog 71 #[.float .f32 x, .float .f32 y] w fun e w' => e = .returned (.float .f32 (addB x y)) ∧ Dr w w' := by
  cases h : floatBits .add .f32 x y with
  | none =>
    have R := Lib.hid (show addB x y = 0 from arB_none h)
    obtain ⟨b, hb, hr⟩ := run_float_nan (P := Try.prog) w .add (.inl rfl) 25 x y h
    have C := Lib.hid (cleanB_nan hb)
    clear h hb
    go_enter Try.func71, Try.ntmps71
    go_wp2_with (go_at_call 52; refine (clean_any _ _).mono ?_; rintro e w' ⟨rfl, n, rfl⟩)
    go_ret
    exact ⟨by rw [R.out, ← C.out]; rfl, Dr.drewN _ _⟩
  | some r =>
    have R := Lib.hid (show addB x y = cleanB r from arB_some h)
    have hr := fun wx => run_float_arith (P := Try.prog) wx .add 25 .f32 x y r h
    clear h
    go_enter Try.func71, Try.ntmps71
    go_wp2_with (go_at_call 52; refine (clean_any _ _).mono ?_; rintro e w' ⟨rfl, n, rfl⟩)
    go_ret
    exact ⟨by rw [R.out]; rfl, Dr.drewN _ _⟩
theorem diff_any (x y : Nat) (w : World) :
    Calls Try.prog 51 #[.float .f32 x, .float .f32 y] w fun e w' => e = .returned (.float .f32 (subB x y)) ∧ Dr w w' := by
  cases h : floatBits .sub .f32 x y with
  | none =>
    have R := Lib.hid (show subB x y = 0 from arB_none h)
    obtain ⟨b, hb, hr⟩ := run_float_nan (P := Try.prog) w .sub (.inr (.inl rfl)) 25 x y h
    have C := Lib.hid (cleanB_nan hb)
    clear h hb
    go_enter Try.func51, Try.ntmps51
    go_wp2_with (go_at_call 52; refine (clean_any _ _).mono ?_; rintro e w' ⟨rfl, n, rfl⟩)
    go_ret
    exact ⟨by rw [R.out, ← C.out]; rfl, Dr.drewN _ _⟩
  | some r =>
    have R := Lib.hid (show subB x y = cleanB r from arB_some h)
    have hr := fun wx => run_float_arith (P := Try.prog) wx .sub 25 .f32 x y r h
    clear h
    go_enter Try.func51, Try.ntmps51
    go_wp2_with (go_at_call 52; refine (clean_any _ _).mono ?_; rintro e w' ⟨rfl, n, rfl⟩)
    go_ret
    exact ⟨by rw [R.out]; rfl, Dr.drewN _ _⟩
theorem times_any (x y : Nat) (w : World) :
    Calls Try.prog 34 #[.float .f32 x, .float .f32 y] w fun e w' => e = .returned (.float .f32 (mulB x y)) ∧ Dr w w' := by
  cases h : floatBits .mul .f32 x y with
  | none =>
    have R := Lib.hid (show mulB x y = 0 from arB_none h)
    obtain ⟨b, hb, hr⟩ := run_float_nan (P := Try.prog) w .mul (.inr (.inr rfl)) 25 x y h
    have C := Lib.hid (cleanB_nan hb)
    clear h hb
    go_enter Try.func34, Try.ntmps34
    go_wp2_with (go_at_call 52; refine (clean_any _ _).mono ?_; rintro e w' ⟨rfl, n, rfl⟩)
    go_ret
    exact ⟨by rw [R.out, ← C.out]; rfl, Dr.drewN _ _⟩
  | some r =>
    have R := Lib.hid (show mulB x y = cleanB r from arB_some h)
    have hr := fun wx => run_float_arith (P := Try.prog) wx .mul 25 .f32 x y r h
    clear h
    go_enter Try.func34, Try.ntmps34
    go_wp2_with (go_at_call 52; refine (clean_any _ _).mono ?_; rintro e w' ⟨rfl, n, rfl⟩)
    go_ret
    exact ⟨by rw [R.out]; rfl, Dr.drewN _ _⟩
theorem l1Plus_any (x y : Nat) (w : World) :
    Calls Try.prog 72 #[.float .f32 x, .float .f32 y] w fun e w' => e = .returned (.float .f32 (addB x y)) ∧ Dr w w' := by
  cases h : floatBits .add .f32 x y with
  | none =>
    have R := Lib.hid (show addB x y = 0 from arB_none h)
    obtain ⟨b, hb, hr⟩ := run_float_nan (P := Try.prog) w .add (.inl rfl) 25 x y h
    have C := Lib.hid (cleanB_nan hb)
    clear h hb
    go_enter Try.func72, Try.ntmps72
    go_wp2_with (go_at_call 75; refine (l1Clean_any _ _).mono ?_; rintro e w' ⟨rfl, n, rfl⟩)
    go_ret
    exact ⟨by rw [R.out, ← C.out]; rfl, Dr.drewN _ _⟩
  | some r =>
    have R := Lib.hid (show addB x y = cleanB r from arB_some h)
    have hr := fun wx => run_float_arith (P := Try.prog) wx .add 25 .f32 x y r h
    clear h
    go_enter Try.func72, Try.ntmps72
    go_wp2_with (go_at_call 75; refine (l1Clean_any _ _).mono ?_; rintro e w' ⟨rfl, n, rfl⟩)
    go_ret
    exact ⟨by rw [R.out]; rfl, Dr.drewN _ _⟩
end Go.Proofs.Ytchkcleenmoajaa
