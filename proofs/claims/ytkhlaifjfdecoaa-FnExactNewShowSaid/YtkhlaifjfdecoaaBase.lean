
/- The smallest functions: ranges, single operations on float32 words. -/
import Derived.Test.YtkhlaifjfdecoaaRows
import Derived.Test.YtkhlaifjfdecoaaFp
import Derived.WalkKit
import Derived.WalkSpells
import Derived.WalkLawsBesides
import Derived.Handy
import Derived.Lib.Hide
import Derived.Deep.QuietTactic
import Derived.BigQuiet
namespace Go.Proofs.Ytkhlaifjfdecoaa
open Go.RowKit

def inB (n lo hi : Int) : Bool := decide (lo ≤ n ∧ n ≤ hi)
def Dr (w w' : World) : Prop := ∃ n, w.drewN n = w'
theorem Dr.refl (w : World) : Dr w w := ⟨0, rfl⟩

theorem within_any (n lo hi : Int) (w : World) :
    Calls Try.prog 29 #[.int .i64 n, .int .i64 lo, .int .i64 hi] w fun e w' => e = .returned (.bool (inB n lo hi)) ∧ w = w' := by
  by_cases h1 : lo ≤ n <;> by_cases h2 : n ≤ hi
  all_goals
    go_enter Try.func29, Try.ntmps29
    go_wp2
    go_ret
    exact ⟨by simp [inB, h1, h2], rfl⟩
theorem l1In_any (n lo hi : Int) (w : World) :
    Calls Try.prog 23 #[.int .i64 n, .int .i64 lo, .int .i64 hi] w fun e w' => e = .returned (.bool (inB n lo hi)) ∧ w = w' := by
  by_cases h1 : lo ≤ n <;> by_cases h2 : n ≤ hi
  all_goals
    go_enter Try.func23, Try.ntmps23
    go_wp2
    go_ret
    exact ⟨by simp [inB, h1, h2], rfl⟩

section
variable {P : Program} (w : World)
theorem run_float_nan (op : BinOp) (hop : op = .add ∨ op = .sub ∨ op = .mul) (t : TypeId) (x y : Nat) (h : floatBits op .f32 x y = none) :
    ∃ b, nanB b = true ∧ (binOp op t (.float .f32 x) (.float .f32 y)).run P w = .ok (.float .f32 b) w.drew := by
  refine ⟨(Question.nanBits .f32 x y).cut (w.tape w.drawn (.nanBits .f32 x y)), ?_, ?_⟩
  · simp only [Question.cut]
    exact nan_cut _ _
  · unfold floatBits at h
    have hf : (Question.nanBits .f32 x y).forced = false := rfl
    rcases hop with rfl | rfl | rfl <;> simp only at h <;> simp [binOp, Op.floatArith, h, hf]
end

theorem l1Single_any (x : Nat) (w : World) :
    Calls Try.prog 24 #[.float .f32 x] w fun e w' => e = .returned (.bool (finB x)) ∧ Dr w w' := by
  cases h : finB x
  · obtain ⟨b, hb, hr⟩ := run_float_nan (P := Try.prog) w .sub (.inr (.inl rfl)) 22 x x (sub_self_not h)
    have ho : FloatKind.f32.format.order b 0 = none := ord_nan_left hb 0
    go_enter Try.func24, Try.ntmps24
    go_wp2
    go_ret
    exact ⟨rfl, 1, rfl⟩
  · have hr := fun wx => run_float_arith (P := Try.prog) wx .sub 22 .f32 x x 0 (sub_self_fin h)
    have ho : FloatKind.f32.format.order 0 0 = some .eq := by decide
    go_enter Try.func24, Try.ntmps24
    go_wp2
    go_ret
    exact ⟨rfl, Dr.refl _⟩
theorem Dr.trans {a b c : World} (h : Dr a b) (k : Dr b c) : Dr a c := by
  obtain ⟨n, rfl⟩ := h
  obtain ⟨m, rfl⟩ := k
  exact ⟨n + m, by rw [World.drewN_drewN]⟩
theorem Dr.drew (w : World) : Dr w w.drew := ⟨1, rfl⟩
theorem Dr.drewN (w : World) (n : Nat) : Dr w (w.drewN n) := ⟨n, rfl⟩

theorem arB_some {op : BinOp} {x y r : Nat} (h : floatBits op .f32 x y = some r) : arB op x y = cleanB r := by simp [arB, h]
theorem arB_none {op : BinOp} {x y : Nat} (h : floatBits op .f32 x y = none) : arB op x y = 0 := by simp [arB, h]
theorem cleanB_nan {b : Nat} (h : nanB b = true) : cleanB b = 0 := by
  have hf : finB b = false := by simp only [finB, nanB, decide_eq_true_eq, decide_eq_false_iff_not] at *; omega
  simp [cleanB, hf]
end Go.Proofs.Ytkhlaifjfdecoaa
