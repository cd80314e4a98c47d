/- Fp · Base · Geo · Sym · Eq · Eq2 · Mem · Draw · DrawSyms -/
import Derived.Laws.FloatArith
import Derived.Test.YthlphmojldbpkaaGreatRows
import Derived.WalkKit
import Derived.WalkSpells
import Derived.WalkLawsBesides
import Derived.Handy
import Derived.Lib.Hide
import Derived.Deep.QuietTactic
import Derived.BigQuiet
import Derived.Laws.ComplexArith
import Derived.Deep.AppendLies
import Derived.Deep.RegionHeld3
import Derived.BigRegion

/- Plain facts about float32 words: comparisons, what is finite, what an operation gives. No program. -/
namespace Go.Proofs.YthlphmojldbpkaaGreat
open Ieee

/-- finite: neither an infinity nor a NaN -/
def finB (x : Nat) : Bool := decide (x % 2147483648 < 2139095040)
/-- a zero of either sign -/
def zeroB (x : Nat) : Bool := decide (x % 2147483648 = 0)
def nanB (x : Nat) : Bool := decide (2139095040 < x % 2147483648)
def cleanB (x : Nat) : Nat := if finB x && !zeroB x then x else 0
def arB (op : BinOp) (x y : Nat) : Nat := match floatBits op .f32 x y with | some r => cleanB r | none => 0
def addB (x y : Nat) : Nat := arB .add x y
def subB (x y : Nat) : Nat := arB .sub x y
def mulB (x y : Nat) : Nat := arB .mul x y
def ordB (x y : Nat) : Option Ordering := single.order x y
def leB (x y : Nat) : Bool := ordB x y == some .lt || ordB x y == some .eq
def gtB (x y : Nat) : Bool := ordB x y == some .gt
def geB (x y : Nat) : Bool := ordB x y == some .gt || ordB x y == some .eq
def eqB (x y : Nat) : Bool := ordB x y == some .eq

theorem c_sw : single.signWeight = 2147483648 := by decide
theorem c_bin : single.binade = 8388608 := by decide
theorem c_inf : single.infRung = 2139095040 := by decide

theorem read_fin {x : Nat} (h : finB x = true) : ∃ m p, single.read x = .number (x / 2147483648 % 2 == 1) m p ∧ -149 ≤ p ∧ (m = 0 ↔ x % 2147483648 = 0) := by
  simp only [finB, decide_eq_true_eq] at h
  unfold Format.read
  rw [c_sw, c_bin, c_inf]
  by_cases h1 : x % 2147483648 < 8388608
  · exact ⟨x % 2147483648, single.leastPlace, by simp [h1], by decide, Iff.rfl⟩
  · refine ⟨8388608 + x % 2147483648 % 8388608, single.leastPlace + (x % 2147483648 / 8388608 - 1 : Nat), by simp [h1, h], ?_, by omega⟩
    have : single.leastPlace = -149 := by decide
    omega

theorem read_inf {x : Nat} (h : x % 2147483648 = 2139095040) : single.read x = .infinity (x / 2147483648 % 2 == 1) := by
  unfold Format.read
  rw [c_sw, c_bin, c_inf, h]
  simp

theorem read_nan {x : Nat} (h : nanB x = true) : ∃ f, single.read x = .nan (x / 2147483648 % 2 == 1) f := by
  simp only [nanB, decide_eq_true_eq] at h
  unfold Format.read
  rw [c_sw, c_bin, c_inf]
  refine ⟨x % 2147483648 - 2139095040, ?_⟩
  have h1 : ¬ x % 2147483648 < 8388608 := by omega
  have h2 : ¬ x % 2147483648 < 2139095040 := by omega
  have h3 : ¬ x % 2147483648 = 2139095040 := by omega
  simp [h1, h2, h3]

theorem three (x : Nat) : finB x = true ∨ x % 2147483648 = 2139095040 ∨ nanB x = true := by
  simp only [finB, nanB, decide_eq_true_eq]; omega

theorem ord_nan_left {x : Nat} (h : nanB x = true) (y : Nat) : ordB x y = none := by
  obtain ⟨f, e⟩ := read_nan h
  simp [ordB, Format.order, e, Datum.order]

theorem read_zero : single.read 0 = .number false 0 (-149) := by decide

theorem signed_zero (s : Bool) (k : Nat) : signed s 0 k = 0 := by simp [signed]

theorem eqB_zero (x : Nat) : eqB x 0 = zeroB x := by
  unfold eqB ordB Format.order
  rw [read_zero]
  rcases three x with h | h | h
  · obtain ⟨m, p, e, hp, hm⟩ := read_fin h
    rw [e]
    simp only [Datum.order, signed_zero, zeroB]
    by_cases hz : m = 0
    · subst hz
      simp [signed_zero, hm.1 rfl]
    · have hx : ¬ x % 2147483648 = 0 := fun hh => hz (hm.2 hh)
      have hne : signed (x / 2147483648 % 2 == 1) m (p - min p (-149)).toNat ≠ 0 := by
        unfold signed
        have h2 : m <<< (p - min p (-149)).toNat ≠ 0 := by
          rw [Nat.shiftLeft_eq]
          exact Nat.mul_ne_zero hz (Nat.pos_iff_ne_zero.1 (Nat.two_pow_pos _))
        split <;> omega
      simp only [hx, decide_false, beq_eq_false_iff_ne, ne_eq, Option.some.injEq]
      intro hc
      exact hne (Int.compare_eq_eq.1 hc)
  · rw [read_inf h]
    simp only [Datum.order, zeroB, h]
    cases (x / 2147483648 % 2 == 1) <;> decide
  · obtain ⟨f, e⟩ := read_nan h
    rw [e]
    simp only [nanB, decide_eq_true_eq] at h
    simp only [Datum.order, zeroB]
    have : ¬ x % 2147483648 = 0 := by omega
    simp [this]

theorem sub_self_fin {x : Nat} (h : finB x = true) : floatBits .sub .f32 x x = some 0 := by
  obtain ⟨m, p, e, hp, hm⟩ := read_fin h
  show single.sub x x = some 0
  unfold Format.sub
  rw [e]
  simp only [Datum.opposite, Datum.sum, signed]
  cases (x / 2147483648 % 2 == 1) <;> simp [Format.write, Format.nearest, Format.word, Int.add_left_neg, Int.add_right_neg]

theorem sub_self_not {x : Nat} (h : finB x = false) : floatBits .sub .f32 x x = none := by
  show single.sub x x = none
  unfold Format.sub
  rcases three x with h1 | h1 | h1
  · rw [h] at h1; cases h1
  · rw [read_inf h1]
    simp [Datum.opposite, Datum.sum]
  · obtain ⟨f, e⟩ := read_nan h1
    rw [e]
    simp [Datum.sum]

theorem nan_cut (k t : Nat) : nanB ((k % 2) * 2 ^ 31 + 2139095040 + 1 + (t % (2 ^ 23 - 1))) = true := by
  simp only [nanB, decide_eq_true_eq]
  omega

theorem cleanB_fin (x : Nat) : finB (cleanB x) = true := by
  unfold cleanB
  by_cases h : (finB x && !zeroB x) = true
  · rw [if_pos h]; simp at h; exact h.1
  · rw [if_neg h]; decide
end Go.Proofs.YthlphmojldbpkaaGreat

/- The smallest functions: ranges, single operations on float32 words. -/
namespace Go.Proofs.YthlphmojldbpkaaGreat
open Go.RowKit

def inB (n lo hi : Int) : Bool := decide (lo ≤ n ∧ n ≤ hi)
def Dr (w w' : World) : Prop := ∃ n, w.drewN n = w'
theorem Dr.refl (w : World) : Dr w w := ⟨0, rfl⟩

theorem within_any (n lo hi : Int) (w : World) :
    Calls Tryz.prog 49 #[.int .i64 n, .int .i64 lo, .int .i64 hi] w fun e w' => e = .returned (.bool (inB n lo hi)) ∧ w = w' := by
  by_cases h1 : lo ≤ n <;> by_cases h2 : n ≤ hi
  all_goals
    go_enter Tryz.func49, Tryz.ntmps49
    go_wp2
    go_ret
    exact ⟨by simp [inB, h1, h2], rfl⟩
theorem l1In_any (n lo hi : Int) (w : World) :
    Calls Tryz.prog 126 #[.int .i64 n, .int .i64 lo, .int .i64 hi] w fun e w' => e = .returned (.bool (inB n lo hi)) ∧ w = w' := by
  by_cases h1 : lo ≤ n <;> by_cases h2 : n ≤ hi
  all_goals
    go_enter Tryz.func126, Tryz.ntmps126
    go_wp2
    go_ret
    exact ⟨by simp [inB, h1, h2], rfl⟩

section
variable {P : Program} (w : World)
theorem run_float_nan (op : BinOp) (hop : op = .add ∨ op = .sub ∨ op = .mul) (t : TypeId) (x y : Nat) (h : floatBits op .f32 x y = none) :
    ∃ b, nanB b = true ∧ (binOp op t (.float .f32 x) (.float .f32 y)).run P w = .ok (.float .f32 b) w.drew := by
  refine ⟨(Question.nanBits .f32 x y).cut (w.tape w.drawn (.nanBits .f32 x y)), ?_, ?_⟩
  · simp only [Question.cut]
    exact nan_cut _ _
  · unfold floatBits at h
    have hf : (Question.nanBits .f32 x y).forced = false := rfl
    rcases hop with rfl | rfl | rfl <;> simp only at h <;> simp [binOp, Op.floatArith, h, hf]
end

theorem isSingle_any (x : Nat) (w : World) :
    Calls Tryz.prog 115 #[.float .f32 x] w fun e w' => e = .returned (.bool (finB x)) ∧ Dr w w' := by
  cases h : finB x
  · obtain ⟨b, hb, hr⟩ := run_float_nan (P := Tryz.prog) w .sub (.inr (.inl rfl)) 24 x x (sub_self_not h)
    have ho : FloatKind.f32.format.order b 0 = none := ord_nan_left hb 0
    go_enter Tryz.func115, Tryz.ntmps115
    go_wp2
    go_ret
    exact ⟨rfl, 1, rfl⟩
  · have hr := fun wx => run_float_arith (P := Tryz.prog) wx .sub 24 .f32 x x 0 (sub_self_fin h)
    have ho : FloatKind.f32.format.order 0 0 = some .eq := by decide
    go_enter Tryz.func115, Tryz.ntmps115
    go_wp2
    go_ret
    exact ⟨rfl, Dr.refl _⟩
theorem l1Single_any (x : Nat) (w : World) :
    Calls Tryz.prog 127 #[.float .f32 x] w fun e w' => e = .returned (.bool (finB x)) ∧ Dr w w' := by
  cases h : finB x
  · obtain ⟨b, hb, hr⟩ := run_float_nan (P := Tryz.prog) w .sub (.inr (.inl rfl)) 24 x x (sub_self_not h)
    have ho : FloatKind.f32.format.order b 0 = none := ord_nan_left hb 0
    go_enter Tryz.func127, Tryz.ntmps127
    go_wp2
    go_ret
    exact ⟨rfl, 1, rfl⟩
  · have hr := fun wx => run_float_arith (P := Tryz.prog) wx .sub 24 .f32 x x 0 (sub_self_fin h)
    have ho : FloatKind.f32.format.order 0 0 = some .eq := by decide
    go_enter Tryz.func127, Tryz.ntmps127
    go_wp2
    go_ret
    exact ⟨rfl, Dr.refl _⟩
theorem Dr.trans {a b c : World} (h : Dr a b) (k : Dr b c) : Dr a c := by
  obtain ⟨n, rfl⟩ := h
  obtain ⟨m, rfl⟩ := k
  exact ⟨n + m, by rw [World.drewN_drewN]⟩
theorem Dr.drew (w : World) : Dr w w.drew := ⟨1, rfl⟩
theorem Dr.drewN (w : World) (n : Nat) : Dr w (w.drewN n) := ⟨n, rfl⟩

theorem clean_any (x : Nat) (w : World) :
    Calls Tryz.prog 90 #[.float .f32 x] w fun e w' => e = .returned (.float .f32 (cleanB x)) ∧ Dr w w' := by
  have hz0 := eqB_zero x
  cases hz : zeroB x
  · have ho : (FloatKind.f32.format.order x 0 == some .eq) = false := by rw [hz] at hz0; exact hz0
    clear hz0
    cases hf : finB x
    all_goals
      have r : cleanB x = if finB x && !zeroB x then x else 0 := rfl
      rw [hf, hz] at r
      have R := Lib.hid r
      clear r
      go_enter Tryz.func90, Tryz.ntmps90
      go_wp2_with (go_at_call 115; refine (isSingle_any _ _).mono ?_; rintro e w' ⟨rfl, n, rfl⟩; try simp only [hf])
      go_ret
      exact ⟨by rw [R.out]; rfl, Dr.drewN _ _⟩
  · have ho : (FloatKind.f32.format.order x 0 == some .eq) = true := by rw [hz] at hz0; exact hz0
    have r : cleanB x = if finB x && !zeroB x then x else 0 := rfl
    rw [hz] at r
    have R := Lib.hid r
    clear r hz0
    go_enter Tryz.func90, Tryz.ntmps90
    go_wp2
    go_ret
    exact ⟨by rw [R.out]; simp, Dr.refl _⟩

theorem l1Clean_any (x : Nat) (w : World) :
    Calls Tryz.prog 154 #[.float .f32 x] w fun e w' => e = .returned (.float .f32 (cleanB x)) ∧ Dr w w' := by
  have hz0 := eqB_zero x
  cases hz : zeroB x
  · have ho : (FloatKind.f32.format.order x 0 == some .eq) = false := by rw [hz] at hz0; exact hz0
    clear hz0
    have r : cleanB x = if finB x && !zeroB x then x else 0 := rfl
    cases hf : finB x
    · rw [hf, hz] at r
      have R := Lib.hid r
      clear r
      obtain ⟨b, hb, hr⟩ := run_float_nan (P := Tryz.prog) w .sub (.inr (.inl rfl)) 24 x x (sub_self_not hf)
      have hn : (FloatKind.f32.format.order b 0 != some .eq) = true := by
        have := ord_nan_left hb 0
        unfold ordB at this
        simp [FloatKind.format, this]
      go_enter Tryz.func154, Tryz.ntmps154
      go_wp2
      go_ret
      exact ⟨by rw [R.out]; rfl, 1, rfl⟩
    · rw [hf, hz] at r
      have R := Lib.hid r
      clear r
      have hr := fun wx => run_float_arith (P := Tryz.prog) wx .sub 24 .f32 x x 0 (sub_self_fin hf)
      have hn : (FloatKind.f32.format.order 0 0 != some .eq) = false := by decide
      go_enter Tryz.func154, Tryz.ntmps154
      go_wp2
      go_ret
      exact ⟨by rw [R.out]; rfl, Dr.refl _⟩
  · have ho : (FloatKind.f32.format.order x 0 == some .eq) = true := by rw [hz] at hz0; exact hz0
    have r : cleanB x = if finB x && !zeroB x then x else 0 := rfl
    rw [hz] at r
    have R := Lib.hid r
    clear r hz0
    go_enter Tryz.func154, Tryz.ntmps154
    go_wp2
    go_ret
    exact ⟨by rw [R.out]; simp, Dr.refl _⟩

theorem arB_some {op : BinOp} {x y r : Nat} (h : floatBits op .f32 x y = some r) : arB op x y = cleanB r := by simp [arB, h]
theorem arB_none {op : BinOp} {x y : Nat} (h : floatBits op .f32 x y = none) : arB op x y = 0 := by simp [arB, h]
theorem cleanB_nan {b : Nat} (h : nanB b = true) : cleanB b = 0 := by
  have hf : finB b = false := by simp only [finB, nanB, decide_eq_true_eq, decide_eq_false_iff_not] at *; omega
  simp [cleanB, hf]
theorem sum_any (x y : Nat) (w : World) :
    Calls Tryz.prog 110 #[.float .f32 x, .float .f32 y] w fun e w' => e = .returned (.float .f32 (addB x y)) ∧ Dr w w' := by
  cases h : floatBits .add .f32 x y with
  | none =>
    have R := Lib.hid (show addB x y = 0 from arB_none h)
    obtain ⟨b, hb, hr⟩ := run_float_nan (P := Tryz.prog) w .add (.inl rfl) 24 x y h
    have C := Lib.hid (cleanB_nan hb)
    clear h hb
    go_enter Tryz.func110, Tryz.ntmps110
    go_wp2_with (go_at_call 90; refine (clean_any _ _).mono ?_; rintro e w' ⟨rfl, n, rfl⟩)
    go_ret
    exact ⟨by rw [R.out, ← C.out]; rfl, Dr.drewN _ _⟩
  | some r =>
    have R := Lib.hid (show addB x y = cleanB r from arB_some h)
    have hr := fun wx => run_float_arith (P := Tryz.prog) wx .add 24 .f32 x y r h
    clear h
    go_enter Tryz.func110, Tryz.ntmps110
    go_wp2_with (go_at_call 90; refine (clean_any _ _).mono ?_; rintro e w' ⟨rfl, n, rfl⟩)
    go_ret
    exact ⟨by rw [R.out]; rfl, Dr.drewN _ _⟩
theorem diff_any (x y : Nat) (w : World) :
    Calls Tryz.prog 89 #[.float .f32 x, .float .f32 y] w fun e w' => e = .returned (.float .f32 (subB x y)) ∧ Dr w w' := by
  cases h : floatBits .sub .f32 x y with
  | none =>
    have R := Lib.hid (show subB x y = 0 from arB_none h)
    obtain ⟨b, hb, hr⟩ := run_float_nan (P := Tryz.prog) w .sub (.inr (.inl rfl)) 24 x y h
    have C := Lib.hid (cleanB_nan hb)
    clear h hb
    go_enter Tryz.func89, Tryz.ntmps89
    go_wp2_with (go_at_call 90; refine (clean_any _ _).mono ?_; rintro e w' ⟨rfl, n, rfl⟩)
    go_ret
    exact ⟨by rw [R.out, ← C.out]; rfl, Dr.drewN _ _⟩
  | some r =>
    have R := Lib.hid (show subB x y = cleanB r from arB_some h)
    have hr := fun wx => run_float_arith (P := Tryz.prog) wx .sub 24 .f32 x y r h
    clear h
    go_enter Tryz.func89, Tryz.ntmps89
    go_wp2_with (go_at_call 90; refine (clean_any _ _).mono ?_; rintro e w' ⟨rfl, n, rfl⟩)
    go_ret
    exact ⟨by rw [R.out]; rfl, Dr.drewN _ _⟩
theorem times_any (x y : Nat) (w : World) :
    Calls Tryz.prog 84 #[.float .f32 x, .float .f32 y] w fun e w' => e = .returned (.float .f32 (mulB x y)) ∧ Dr w w' := by
  cases h : floatBits .mul .f32 x y with
  | none =>
    have R := Lib.hid (show mulB x y = 0 from arB_none h)
    obtain ⟨b, hb, hr⟩ := run_float_nan (P := Tryz.prog) w .mul (.inr (.inr rfl)) 24 x y h
    have C := Lib.hid (cleanB_nan hb)
    clear h hb
    go_enter Tryz.func84, Tryz.ntmps84
    go_wp2_with (go_at_call 90; refine (clean_any _ _).mono ?_; rintro e w' ⟨rfl, n, rfl⟩)
    go_ret
    exact ⟨by rw [R.out, ← C.out]; rfl, Dr.drewN _ _⟩
  | some r =>
    have R := Lib.hid (show mulB x y = cleanB r from arB_some h)
    have hr := fun wx => run_float_arith (P := Tryz.prog) wx .mul 24 .f32 x y r h
    clear h
    go_enter Tryz.func84, Tryz.ntmps84
    go_wp2_with (go_at_call 90; refine (clean_any _ _).mono ?_; rintro e w' ⟨rfl, n, rfl⟩)
    go_ret
    exact ⟨by rw [R.out]; rfl, Dr.drewN _ _⟩
theorem l1Plus_any (x y : Nat) (w : World) :
    Calls Tryz.prog 137 #[.float .f32 x, .float .f32 y] w fun e w' => e = .returned (.float .f32 (addB x y)) ∧ Dr w w' := by
  cases h : floatBits .add .f32 x y with
  | none =>
    have R := Lib.hid (show addB x y = 0 from arB_none h)
    obtain ⟨b, hb, hr⟩ := run_float_nan (P := Tryz.prog) w .add (.inl rfl) 24 x y h
    have C := Lib.hid (cleanB_nan hb)
    clear h hb
    go_enter Tryz.func137, Tryz.ntmps137
    go_wp2_with (go_at_call 154; refine (l1Clean_any _ _).mono ?_; rintro e w' ⟨rfl, n, rfl⟩)
    go_ret
    exact ⟨by rw [R.out, ← C.out]; rfl, Dr.drewN _ _⟩
  | some r =>
    have R := Lib.hid (show addB x y = cleanB r from arB_some h)
    have hr := fun wx => run_float_arith (P := Tryz.prog) wx .add 24 .f32 x y r h
    clear h
    go_enter Tryz.func137, Tryz.ntmps137
    go_wp2_with (go_at_call 154; refine (l1Clean_any _ _).mono ?_; rintro e w' ⟨rfl, n, rfl⟩)
    go_ret
    exact ⟨by rw [R.out]; rfl, Dr.drewN _ _⟩
theorem l1Minus_any (x y : Nat) (w : World) :
    Calls Tryz.prog 159 #[.float .f32 x, .float .f32 y] w fun e w' => e = .returned (.float .f32 (subB x y)) ∧ Dr w w' := by
  cases h : floatBits .sub .f32 x y with
  | none =>
    have R := Lib.hid (show subB x y = 0 from arB_none h)
    obtain ⟨b, hb, hr⟩ := run_float_nan (P := Tryz.prog) w .sub (.inr (.inl rfl)) 24 x y h
    have C := Lib.hid (cleanB_nan hb)
    clear h hb
    go_enter Tryz.func159, Tryz.ntmps159
    go_wp2_with (go_at_call 154; refine (l1Clean_any _ _).mono ?_; rintro e w' ⟨rfl, n, rfl⟩)
    go_ret
    exact ⟨by rw [R.out, ← C.out]; rfl, Dr.drewN _ _⟩
  | some r =>
    have R := Lib.hid (show subB x y = cleanB r from arB_some h)
    have hr := fun wx => run_float_arith (P := Tryz.prog) wx .sub 24 .f32 x y r h
    clear h
    go_enter Tryz.func159, Tryz.ntmps159
    go_wp2_with (go_at_call 154; refine (l1Clean_any _ _).mono ?_; rintro e w' ⟨rfl, n, rfl⟩)
    go_ret
    exact ⟨by rw [R.out]; rfl, Dr.drewN _ _⟩
theorem l1Times_any (x y : Nat) (w : World) :
    Calls Tryz.prog 161 #[.float .f32 x, .float .f32 y] w fun e w' => e = .returned (.float .f32 (mulB x y)) ∧ Dr w w' := by
  cases h : floatBits .mul .f32 x y with
  | none =>
    have R := Lib.hid (show mulB x y = 0 from arB_none h)
    obtain ⟨b, hb, hr⟩ := run_float_nan (P := Tryz.prog) w .mul (.inr (.inr rfl)) 24 x y h
    have C := Lib.hid (cleanB_nan hb)
    clear h hb
    go_enter Tryz.func161, Tryz.ntmps161
    go_wp2_with (go_at_call 154; refine (l1Clean_any _ _).mono ?_; rintro e w' ⟨rfl, n, rfl⟩)
    go_ret
    exact ⟨by rw [R.out, ← C.out]; rfl, Dr.drewN _ _⟩
  | some r =>
    have R := Lib.hid (show mulB x y = cleanB r from arB_some h)
    have hr := fun wx => run_float_arith (P := Tryz.prog) wx .mul 24 .f32 x y r h
    clear h
    go_enter Tryz.func161, Tryz.ntmps161
    go_wp2_with (go_at_call 154; refine (l1Clean_any _ _).mono ?_; rintro e w' ⟨rfl, n, rfl⟩)
    go_ret
    exact ⟨by rw [R.out]; rfl, Dr.drewN _ _⟩
end Go.Proofs.YthlphmojldbpkaaGreat

/- Points and symmetries: what IsPoint, IsSym, ActSym and their like compute. -/
namespace Go.Proofs.YthlphmojldbpkaaGreat
open Go.RowKit

def reachB (x : Nat) : Bool := geB x 3313500160 && leB x 1166016512
def pointB (re im : Nat) : Bool := reachB re && reachB im
def rotB (p : Nat × Nat) : Nat × Nat := (subB 0 p.2, p.1)
def rotN : Nat → Nat × Nat → Nat × Nat
  | 0, p => p
  | n + 1, p => rotB (rotN n p)
def flipB (f : Bool) (y : Nat) : Nat := if f then subB 0 y else y
/-- what spec.l1Act computes -/
def actS (t : Int) (f : Bool) (re im : Nat) : Nat × Nat := rotN t.toNat (addB re 0, flipB f (addB im 0))
/-- what impl.ActSym computes of a point -/
def actI (t : Int) (f : Bool) (re im : Nat) : Nat × Nat :=
  (cleanB (rotN t.toNat (re, flipB f im)).1, cleanB (rotN t.toNat (re, flipB f im)).2)
def cxV (p : Nat × Nat) : Value := .complex .f32 p.1 p.2

theorem below_drewN {B : Nat} {a w : World} (h : Below B a w) (n : Nat) : Below B a (w.drewN n) := ⟨h.os, h.tape, h.output, h.size, h.block⟩
theorem Dr.below {w w' : World} (h : Dr w w') : Below w.heap.size w w' := by
  obtain ⟨n, rfl⟩ := h
  exact below_drewN (Below.refl _ _) n

theorem reach_fin {x : Nat} (h : reachB x = true) : finB x = true := by
  rcases three x with h1 | h1 | h1
  · exact h1
  · exfalso
    have e := read_inf h1
    have r1 : Ieee.single.read 3313500160 = .number true 8388608 (-11) := by decide
    have r2 : Ieee.single.read 1166016512 = .number false 8388608 (-11) := by decide
    simp only [reachB, geB, leB, ordB, Ieee.Format.order, e, r1, r2, Ieee.Datum.order] at h
    cases hs : (x / 2147483648 % 2 == 1) <;> rw [hs] at h <;> revert h <;> decide
  · exfalso
    unfold reachB geB leB at h
    rw [ord_nan_left h1] at h
    simp at h

theorem inReach_any (x : Nat) (w : World) :
    Calls Tryz.prog 87 #[.float .f32 x] w fun e w' => e = .returned (.bool (reachB x)) ∧ w = w' := by
  have r : reachB x = (geB x 3313500160 && leB x 1166016512) := rfl
  cases h1 : geB x 3313500160
  all_goals
    rw [h1] at r
    have e1 : (FloatKind.f32.format.order x 3313500160 == some .gt || FloatKind.f32.format.order x 3313500160 == some .eq) = geB x 3313500160 := rfl
    rw [h1] at e1
    have R := Lib.hid r
    clear r h1
    go_enter Tryz.func87, Tryz.ntmps87
    go_wp2
    go_ret
    exact ⟨by rw [R.out]; simp [leB, ordB, FloatKind.format], rfl⟩

theorem isPoint_any (re im : Nat) (w : World) :
    Calls Tryz.prog 42 #[.complex .f32 re im] w fun e w' => e = .returned (.bool (pointB re im)) ∧ w = w' := by
  have r : pointB re im = (reachB re && reachB im) := rfl
  cases h1 : reachB re
  all_goals
    rw [h1] at r
    have R := Lib.hid r
    clear r
    go_enter Tryz.func42, Tryz.ntmps42
    go_wp2_with (go_at_call 87; refine (inReach_any _ _).mono ?_; rintro e w' ⟨rfl, rfl⟩; try simp only [h1])
    go_ret
    exact ⟨by rw [R.out]; simp, rfl⟩

theorem isSym_any (t : Int) (f : Bool) (w : World) :
    Calls Tryz.prog 59 #[.agg #[.int .i64 t, .bool f]] w fun e w' => e = .returned (.bool (inB t 0 3)) ∧ Below w.heap.size w w' := by
  go_enter Tryz.func59, Tryz.ntmps59
  go_wp2_with (go_at_call 49; refine (within_any _ _ _ _).mono ?_; rintro e w' ⟨rfl, rfl⟩)
  go_ret
  exact ⟨rfl, (Below.refl _ _).alloc (Nat.le_refl _) _⟩
theorem bcell {B : Nat} {W w1 : World} (hb : Below B W w1) : (∀ b o, b < B → w1.cell? ⟨b, o, none⟩ = W.cell? ⟨b, o, none⟩) ∧ (∀ b o, b < B → w1.frozen? ⟨b, o, none⟩ = W.frozen? ⟨b, o, none⟩) :=
  ⟨fun b o h => hb.cell (p := ⟨b, o, none⟩) h, fun b o h => hb.frozen (p := ⟨b, o, none⟩) h⟩

theorem startS (W : World) : (∀ b o, b < W.heap.size → W.drew.cell? ⟨b, o, none⟩ = W.cell? ⟨b, o, none⟩) ∧ Below W.heap.size W W.drew := ⟨fun _ _ _ => rfl, (Below.refl _ _).drew⟩
theorem stepS {W w1 w2 : World} (h : (∀ b o, b < W.heap.size → w1.cell? ⟨b, o, none⟩ = W.cell? ⟨b, o, none⟩) ∧ Below W.heap.size W w1) (hb : Below w1.heap.size w1 w2) :
    (∀ b o, b < W.heap.size → w2.cell? ⟨b, o, none⟩ = W.cell? ⟨b, o, none⟩) ∧ Below W.heap.size W w2 := by
  have k : Below W.heap.size W w2 := h.2.trans (hb.mono h.2.size)
  exact ⟨fun b o hlt => k.cell (p := ⟨b, o, none⟩) hlt, k⟩
theorem keepC {w w1 : World} {p : Addr} {v : Value} (h : w.cell? p = some v) (hb : Below w.heap.size w w1) : w1.cell? p = some v :=
  (hb.cell (World.block_lt_of_cell? w p h)).trans h
theorem keepF {w w1 : World} {p : Addr} {v : Value} (h : w.cell? p = some v) (hf : w.frozen? p = false) (hb : Below w.heap.size w w1) : w1.frozen? p = false :=
  (hb.frozen (World.block_lt_of_cell? w p h)).trans hf
theorem after1 {w w1 : World} {o : Obj} (h : Below (w.alloc o).heap.size (w.alloc o) w1) : Below w.heap.size w w1 :=
  ((Below.refl _ _).alloc (Nat.le_refl _) _).trans (h.mono (by simp))
theorem then_ {w w1 w2 : World} (h : Below w.heap.size w w1) (k : Below w1.heap.size w1 w2) : Below w.heap.size w w2 := h.trans (k.mono h.size)

set_option maxHeartbeats 1000000 in
theorem l1Act_any (t : Int) (f : Bool) (re im : Nat) (w : World) (ht : inB t 0 3 = true) :
    Calls Tryz.prog 151 #[.agg #[.int .i64 t, .bool f], .complex .f32 re im] w fun e w' => e = .returned (cxV (actS t f re im)) ∧ Below w.heap.size w w' := by
  simp only [inB, decide_eq_true_eq] at ht
  obtain ⟨t0, t3⟩ := ht
  obtain ⟨t, rfl⟩ := Int.eq_ofNat_of_zero_le t0
  obtain ⟨p0, R0⟩ : ∃ p0, p0 = (addB re 0, flipB f (addB im 0)) := ⟨_, rfl⟩
  have R := Lib.hid R0
  clear R0
  cases f
  all_goals
    go_enter Tryz.func151, Tryz.ntmps151
    go_wp2_with (first
      | (go_at_call 137; refine (l1Plus_any _ _ _).mono ?_; rintro e w' ⟨rfl, n, rfl⟩)
      | (go_at_call 159; refine (l1Minus_any _ _ _).mono ?_; rintro e w' ⟨rfl, n, rfl⟩))
    go_loopw [5, 6, 7] (fun x y i wr => ∃ k : Nat, k ≤ t ∧ i = .int .i64 k ∧ x = .float .f32 (rotN k p0).1 ∧ y = .float .f32 (rotN k p0).2 ∧ Below w.heap.size w wr ∧ wr.cell? ⟨w.heap.size, 0, none⟩ = some (.int .i64 t)) (fun _ _ i _ => t - (intOf i).toNat)
    case atStart =>
      exact ⟨0, Nat.zero_le _, rfl, by rw [R.out]; rfl, by rw [R.out]; rfl, below_drewN ((Below.refl _ _).alloc (Nat.le_refl _) _) _, by simp [go_sem]⟩
    case round =>
      obtain ⟨k, hk, rfl, rfl, rfl, hb, hc⟩ := hrel
      by_cases hlt : k < t
      · go_wp2_with (go_at_call 159; refine (l1Minus_any _ _ _).mono ?_; rintro e w' ⟨rfl, n, rfl⟩)
        go_roundw
        case rel => exact ⟨k + 1, by omega, by go_num, rfl, rfl, below_drewN hb _, hc⟩
        case measure => simp [intOf]; omega
      · obtain rfl : k = t := by omega
        go_wp2
        go_ret
        exact ⟨by unfold actS; rw [Int.toNat_natCast, ← R.out]; rfl, hb⟩
end Go.Proofs.YthlphmojldbpkaaGreat

/- The walks of ActSym, ThenSym, BackSym. -/
namespace Go.Proofs.YthlphmojldbpkaaGreat
open Go.RowKit

/-- impl.ActSym -/
def actP (t : Int) (f : Bool) (re im : Nat) : Nat × Nat := if inB t 0 3 && pointB re im then actI t f re im else (0, 0)

theorem inB_true {n lo hi : Int} (h : inB n lo hi = true) : lo ≤ n ∧ n ≤ hi := by simpa [inB] using h

set_option maxHeartbeats 1000000 in
theorem actSym_ok (t : Int) (f : Bool) (re im : Nat) (w : World) (ht : inB t 0 3 = true) (hp : pointB re im = true) :
    Calls Tryz.prog 45 #[.agg #[.int .i64 t, .bool f], .complex .f32 re im] w fun e w' => e = .returned (cxV (actI t f re im)) ∧ Below w.heap.size w w' := by
  obtain ⟨t0, t3⟩ := inB_true ht
  obtain ⟨t, rfl⟩ := Int.eq_ofNat_of_zero_le t0
  obtain ⟨p0, R0⟩ : ∃ p0, p0 = (re, flipB f im) := ⟨_, rfl⟩
  have R := Lib.hid R0
  clear R0
  cases f
  all_goals
    go_enter Tryz.func45, Tryz.ntmps45
    go_wp2_with (first
      | (go_at_call 59; refine (isSym_any _ _ _).mono ?_; rintro e w1 ⟨rfl, hb1⟩; simp only [ht]; obtain ⟨hc1, hf1⟩ := bcell hb1)
      | (go_at_call 42; refine (isPoint_any _ _ _).mono ?_; rintro e w' ⟨rfl, rfl⟩; simp only [hp])
      | (go_at_call 89; refine (diff_any _ _ _).mono ?_; rintro e w' ⟨rfl, n, rfl⟩))
    have hb := after1 hb1
    go_loopw [5, 6, 25] (fun x y i wr => ∃ k : Nat, k ≤ t ∧ i = .int .i64 k ∧ x = .float .f32 (rotN k p0).1 ∧ y = .float .f32 (rotN k p0).2 ∧ Below w.heap.size w wr) (fun _ _ i _ => t - (intOf i).toNat)
    case atStart => exact ⟨0, Nat.zero_le _, rfl, by rw [R.out]; rfl, by rw [R.out]; rfl, by first | exact hb | exact below_drewN hb _⟩
    case round =>
      clear hb hc1 hf1 hb1
      obtain ⟨k, hk, rfl, rfl, rfl, hb⟩ := hrel
      by_cases hlt : k < t
      · go_wp2_with (go_at_call 89; refine (diff_any _ _ _).mono ?_; rintro e w' ⟨rfl, n, rfl⟩)
        go_roundw
        case rel => exact ⟨k + 1, by omega, by go_num, rfl, rfl, below_drewN hb _⟩
        case measure => simp [intOf]; omega
      · obtain rfl : k = t := by omega
        go_wp2_with (go_at_call 90; refine (clean_any _ _).mono ?_; rintro e w' ⟨rfl, n, rfl⟩)
        go_ret
        exact ⟨by unfold actI; rw [Int.toNat_natCast, ← R.out]; rfl, below_drewN hb _⟩

theorem actSym_any (t : Int) (f : Bool) (re im : Nat) (w : World) :
    Calls Tryz.prog 45 #[.agg #[.int .i64 t, .bool f], .complex .f32 re im] w fun e w' => e = .returned (cxV (actP t f re im)) ∧ Below w.heap.size w w' := by
  have r : actP t f re im = if inB t 0 3 && pointB re im then actI t f re im else (0, 0) := rfl
  cases ht : inB t 0 3
  · rw [ht] at r
    have R := Lib.hid r
    clear r
    go_enter Tryz.func45, Tryz.ntmps45
    go_wp2_with (go_at_call 59; refine (isSym_any _ _ _).mono ?_; rintro e w1 ⟨rfl, hb1⟩; simp only [ht]; obtain ⟨hc1, hf1⟩ := bcell hb1)
    go_ret
    exact ⟨by rw [R.out]; rfl, after1 hb1⟩
  · cases hp : pointB re im
    · rw [ht, hp] at r
      have R := Lib.hid r
      clear r
      go_enter Tryz.func45, Tryz.ntmps45
      go_wp2_with (first
        | (go_at_call 59; refine (isSym_any _ _ _).mono ?_; rintro e w1 ⟨rfl, hb1⟩; simp only [ht]; obtain ⟨hc1, hf1⟩ := bcell hb1)
        | (go_at_call 42; refine (isPoint_any _ _ _).mono ?_; rintro e w' ⟨rfl, rfl⟩; simp only [hp]))
      go_ret
      exact ⟨by rw [R.out]; rfl, after1 hb1⟩
    · rw [ht, hp] at r
      rw [r]
      exact actSym_ok t f re im w ht hp

/-- impl.ThenSym -/
def thenT (gt : Int) (ht : Int) (hf : Bool) : Int := (ht + (if hf then 4 - gt else gt)) % 4
def thenP (gt : Int) (gf : Bool) (ht : Int) (hf : Bool) : Int × Bool := if inB gt 0 3 && inB ht 0 3 then (thenT gt ht hf, gf != hf) else (0, false)
end Go.Proofs.YthlphmojldbpkaaGreat

/- sameFloat and what is built on it answers true of one value held against itself. -/
namespace Go.Proofs.YthlphmojldbpkaaGreat
open Go.RowKit

section
variable {P : Program}
end
end Go.Proofs.YthlphmojldbpkaaGreat

/- eqColour, sameComplex, eqSym; toSym, toColour. -/
namespace Go.Proofs.YthlphmojldbpkaaGreat
open Go.RowKit

theorem run_store_float (P : Program) (w : World) (a : Addr) (m : Mode) (k : FloatKind) (b : Nat) : (store a (.float k b) m).run P w = stored P w a (.float k b) m := run_store P w a _ m rfl
theorem run_store_complex (P : Program) (w : World) (a : Addr) (m : Mode) (k : FloatKind) (x y : Nat) : (store a (.complex k x y) m).run P w = stored P w a (.complex k x y) m := run_store P w a _ m rfl
attribute [local go_sem] run_store_float run_store_complex
end Go.Proofs.YthlphmojldbpkaaGreat

/- Memory: a slice that reads as a list, whatever its elements' cells. No program. -/
namespace Go.Proofs.YthlphmojldbpkaaGreat
open Go.RowKit

/-- the slice at A with n elements reads as xs (each element 'sz' cells, 'enc'), below block B -/
def Rd {α : Type} (enc : α → List Value) (sz : Nat) (w : World) (B : Nat) (A : Option Addr) (n : Nat) (xs : List α) : Prop :=
  xs.length = n ∧ (0 < n → ∃ b off, A = some ⟨b, off, none⟩ ∧ b < B ∧ ∀ k x, xs[k]? = some x → ∀ j u, (enc x)[j]? = some u → w.cell? ⟨b, off + k * sz + j, none⟩ = some u)

section
variable {α : Type} {enc : α → List Value} {sz : Nat} {w w' : World} {B B' : Nat} {A : Option Addr} {n : Nat} {xs : List α}
theorem Rd.nil_ : Rd enc sz w B A 0 [] := ⟨rfl, fun h => absurd h (by omega)⟩
theorem Rd.at_ {k : Nat} (h : Rd enc sz w B A n xs) (hk : k < n) : ∃ b off x, A = some ⟨b, off, none⟩ ∧ b < B ∧ xs[k]? = some x ∧ ∀ j u, (enc x)[j]? = some u → w.cell? ⟨b, off + k * sz + j, none⟩ = some u := by
  obtain ⟨b, off, e, hb, hc⟩ := h.2 (by omega)
  have hl : k < xs.length := by have := h.1; omega
  exact ⟨b, off, xs[k], e, hb, List.getElem?_eq_getElem hl, hc k _ (List.getElem?_eq_getElem hl)⟩
theorem Rd.keep (h : Rd enc sz w B A n xs) (hk : ∀ p : Addr, p.block < B → w'.cell? p = w.cell? p) : Rd enc sz w' B A n xs :=
  ⟨h.1, fun hn => by
    obtain ⟨b, off, e, hb, hc⟩ := h.2 hn
    exact ⟨b, off, e, hb, fun k x hx j u hu => (hk ⟨b, off + k * sz + j, none⟩ hb).trans (hc k x hx j u hu)⟩⟩
theorem Rd.more (h : Rd enc sz w B A n xs) (hB : B ≤ B') : Rd enc sz w B' A n xs :=
  ⟨h.1, fun hn => by
    obtain ⟨b, off, e, hb, hc⟩ := h.2 hn
    exact ⟨b, off, e, by omega, hc⟩⟩
theorem Rd.below (h : Rd enc sz w B A n xs) (hb : Below B w w') : Rd enc sz w' B A n xs := h.keep fun _ hp => hb.cell hp
theorem Rd.drewN (h : Rd enc sz w B A n xs) (k : Nat) : Rd enc sz (w.drewN k) B A n xs := h
theorem Rd.drew (h : Rd enc sz w B A n xs) : Rd enc sz w.drew B A n xs := h
/-- the current world's own form: carried over a callee that only makes memory -/
theorem Rd.step (h : Rd enc sz w w.heap.size A n xs) (hb : Below w.heap.size w w') : Rd enc sz w' w'.heap.size A n xs := (h.below hb).more hb.size
end

/-- the eight symmetries by number -/
def sym8 (k : Nat) : Int × Bool := (((k % 4 : Nat) : Int), decide (4 ≤ k))

/-! ### cells of values -/
abbrev Col := Nat × Nat × Nat
def colC (c : Col) : List Value := [.float .f32 c.1, .float .f32 c.2.1, .float .f32 c.2.2]
def symC (s : Int × Bool) : List Value := [.int .i64 s.1, .bool s.2]
def intC (n : Int) : List Value := [.int .i64 n]
def byteC (n : Int) : List Value := [.int .u8 n]

/-! ### rows of the call's own -/
def flat {α : Type} (enc : α → List Value) (xs : List α) : List Value := xs.flatMap enc
theorem flat_nil {α : Type} (enc : α → List Value) : flat enc [] = [] := rfl
theorem flat_cons {α : Type} (enc : α → List Value) (x : α) (xs : List α) : flat enc (x :: xs) = enc x ++ flat enc xs := rfl
theorem flat_append {α : Type} (enc : α → List Value) (xs ys : List α) : flat enc (xs ++ ys) = flat enc xs ++ flat enc ys := by simp [flat]
theorem flat_length {α : Type} {enc : α → List Value} {sz : Nat} (he : ∀ x, (enc x).length = sz) (xs : List α) : (flat enc xs).length = xs.length * sz := by
  induction xs with
  | nil => simp [flat]
  | cons x xs ih => rw [flat_cons, List.length_append, he, ih, List.length_cons, Nat.add_mul]; omega
theorem flat_get {α : Type} {enc : α → List Value} {sz : Nat} (he : ∀ x, (enc x).length = sz) (xs : List α) (k : Nat) (x : α) (hx : xs[k]? = some x) (j : Nat) (u : Value) (hu : (enc x)[j]? = some u) :
    (flat enc xs)[k * sz + j]? = some u := by
  have hj : j < sz := by
    have h := (List.getElem?_eq_some_iff.1 hu).1
    rw [he] at h; exact h
  induction xs generalizing k with
  | nil => simp at hx
  | cons y ys ih =>
    rw [flat_cons]
    cases k with
    | zero =>
      simp at hx
      subst hx
      rw [Nat.zero_mul, Nat.zero_add, List.getElem?_append_left (by rw [he]; exact hj)]
      exact hu
    | succ k =>
      rw [List.getElem?_append_right (by rw [he, Nat.add_mul]; omega), he]
      rw [show (k + 1) * sz + j - sz = k * sz + j from by rw [Nat.add_mul]; omega]
      exact ih k (by simpa using hx)
theorem colC_len (c : Col) : (colC c).length = 3 := rfl
theorem symC_len (s : Int × Bool) : (symC s).length = 2 := rfl
/-- an owned row reads -/
theorem Rd.of_own {α : Type} {enc : α → List Value} {sz : Nat} (he : ∀ x, (enc x).length = sz) {w : World} {base : Nat} {E : TypeId} {A : Option Addr} {n c : Nat} {xs : List α}
    (hl : xs.length = n) (h : w.ownsRow base E sz (.slice A n c) n (flat enc xs)) : Rd enc sz w w.heap.size A n xs := by
  refine ⟨hl, fun hn => ?_⟩
  obtain ⟨g, cap, hv, hlt⟩ : ∃ g cap, (Value.slice A n c) = .slice (some ⟨g, 0, none⟩) n cap ∧ g < w.heap.size := by
    rcases h.2 with ⟨_, h0⟩ | ⟨g, cap, cur, hv, _, hg, _⟩
    · omega
    · exact ⟨g, cap, hv, by
        rcases Nat.lt_or_ge g w.heap.size with hlt | hge
        · exact hlt
        · rw [Array.getElem?_eq_none hge] at hg; cases hg⟩
  injection hv with hA
  subst hA
  refine ⟨g, 0, rfl, hlt, fun k x hx j u hu => ?_⟩
  have hc := h.cells (g := g) rfl _ _ (flat_get he xs k x hx j u hu)
  unfold Addr.add at hc
  split at hc
  · rename_i h0
    rw [show 0 + k * sz + j = 0 from by omega]
    exact hc
  · rw [show 0 + k * sz + j = 0 + (k * sz + j) from by omega]
    exact hc

theorem grown_of_below {a w : World} (h : Below a.heap.size a w) (row : Option Nat) : a.grownBy w row := ⟨h.os, h.tape, h.output, h.size, fun i hi _ => h.block i hi⟩
theorem owns_below {w w' : World} {base : Nat} {E : TypeId} {sz : Nat} {v : Value} {n : Nat} {xs : List Value} (h : w.ownsRow base E sz v n xs) (hb : Below w.heap.size w w') : w'.ownsRow base E sz v n xs :=
  h.kept (grown_of_below hb none) (by cases hv : v.ownBlock <;> simp)
theorem owns_mono {w : World} {base base' : Nat} {E : TypeId} {sz : Nat} {v : Value} {n : Nat} {xs : List Value} (h : w.ownsRow base' E sz v n xs) (hb : base ≤ base') : w.ownsRow base E sz v n xs := by
  refine ⟨h.1, ?_⟩
  rcases h.2 with h0 | ⟨g, cap, cur, h1, h2, h3⟩
  · exact .inl h0
  · exact .inr ⟨g, cap, cur, h1, Nat.le_trans hb h2, h3⟩
theorem owns_slice {w : World} {base : Nat} {E : TypeId} {sz : Nat} {v : Value} {n : Nat} {xs : List Value} (h : w.ownsRow base E sz v n xs) : ∃ A c, v = .slice A n c := by
  rcases h.2 with ⟨rfl, rfl⟩ | ⟨g, cap, cur, rfl, _⟩
  · exact ⟨_, _, rfl⟩
  · exact ⟨_, _, rfl⟩
/-- what an append leaves below its base -/
theorem below_append {w0 wr w1 : World} {o : Obj} {E : TypeId} {sz : Nat} {v : Value} {n : Nat} {xs : List Value} (hw : Below w0.heap.size w0 wr) (hown : wr.ownsRow w0.heap.size E sz v n xs)
    (hg : (wr.alloc o).grownBy w1 v.ownBlock) : Below w0.heap.size w0 w1 :=
  (hw.alloc hw.size o).grown hg (Nat.le_trans hw.size (by simp)) (fun k hk => (hown.lt k hk).1)
/-- a cell of an owned row -/
theorem owns_cell {w : World} {base : Nat} {E : TypeId} {sz : Nat} {g n c : Nat} {ys : List Value} (h : w.ownsRow base E sz (.slice (some ⟨g, 0, none⟩) n c) n ys) (j : Nat) (hj : j < n * sz) :
    ∃ v, w.cell? ⟨g, j, none⟩ = some v := by
  rw [h.cellAt j hj]
  exact ⟨_, List.getElem?_eq_getElem (by rw [h.1]; exact hj)⟩
/-- the first k elements of ys are already those of zs -/
def Pre (k sz : Nat) (ys zs : List Value) : Prop := ys.length = zs.length ∧ ∀ j, j < k * sz → ys[j]? = zs[j]?
theorem Pre.zero {sz : Nat} {ys zs : List Value} (h : ys.length = zs.length) : Pre 0 sz ys zs := ⟨h, fun j hj => by simp at hj⟩
theorem Pre.done {k sz : Nat} {ys zs : List Value} (h : Pre k sz ys zs) (hl : zs.length ≤ k * sz) : ys = zs := by
  apply List.ext_getElem?
  intro j
  by_cases hj : j < k * sz
  · exact h.2 j hj
  · rw [List.getElem?_eq_none (by rw [h.1]; omega), List.getElem?_eq_none (by omega)]
theorem Rd.col {w : World} {B : Nat} {A : Option Addr} {n k : Nat} {xs : List Col} (h : Rd colC 3 w B A n xs) (hk : k < n) :
    ∃ b off r g l, A = some ⟨b, off, none⟩ ∧ b < B ∧ xs[k]? = some (r, g, l) ∧ w.cell? ⟨b, off + k * 3, none⟩ = some (.float .f32 r) ∧ w.cell? ⟨b, off + k * 3 + 1, none⟩ = some (.float .f32 g) ∧ w.cell? ⟨b, off + k * 3 + 2, none⟩ = some (.float .f32 l) := by
  obtain ⟨b, off, ⟨r, g, l⟩, e, hb, hx, hc⟩ := h.at_ hk
  exact ⟨b, off, r, g, l, e, hb, hx, hc 0 _ rfl, hc 1 _ rfl, hc 2 _ rfl⟩
end Go.Proofs.YthlphmojldbpkaaGreat

/- The draws' source: a cursor over bytes. -/
namespace Go.Proofs.YthlphmojldbpkaaGreat
open Go.RowKit

/-- the cursor's block -/
def Cur (w : World) (g : Nat) (A : Option Addr) (m c : Nat) : Prop := ∃ i h : Int, 0 ≤ i ∧ w.heap[g]? = some (.cells #[.slice A m c, .int .i64 i, .int .i64 h] 109 (0, 0))

theorem i64_and255 (n : Int) : bits .and .i64 n 255 = n % 256 := by
  have h255 : (BitVec.ofInt 64 255).toNat = 2 ^ 8 - 1 := by decide
  have key : (BitVec.ofInt 64 n &&& BitVec.ofInt 64 255).toNat = (n % ((2 ^ 64 : Nat) : Int)).toNat % 2 ^ 8 := by
    rw [BitVec.toNat_and, BitVec.toNat_ofInt, h255, Nat.and_two_pow_sub_one_eq_mod]
  show IntKind.i64.wrap ((BitVec.ofInt 64 n &&& BitVec.ofInt 64 255).toNat : Nat) = n % 256
  rw [key, IntKind.wrap_i64]
  omega
theorem and255_bd (n : Int) : 0 ≤ bits .and .i64 n 255 ∧ bits .and .i64 n 255 ≤ 255 := by rw [i64_and255]; omega

theorem cur_set {w : World} {g : Nat} {A : Option Addr} {m c : Nat} {i h : Int} (hg : w.heap[g]? = some (.cells #[.slice A m c, .int .i64 i, .int .i64 h] 109 (0, 0))) (h' : Int) :
    (w.setCell ⟨g, 2, none⟩ (.int .i64 h')).heap[g]? = some (.cells #[.slice A m c, .int .i64 i, .int .i64 h'] 109 (0, 0)) := by
  rw [heap_setCell_same w g 2 _ _ _ hg]; rfl
theorem cur_set1 {w : World} {g : Nat} {A : Option Addr} {m c : Nat} {i h : Int} (hg : w.heap[g]? = some (.cells #[.slice A m c, .int .i64 i, .int .i64 h] 109 (0, 0))) (i' : Int) :
    (w.setCell ⟨g, 1, none⟩ (.int .i64 i')).heap[g]? = some (.cells #[.slice A m c, .int .i64 i', .int .i64 h] 109 (0, 0)) := by
  rw [heap_setCell_same w g 1 _ _ _ hg]; rfl

theorem grown_drewN {a w : World} {row : Option Nat} (h : a.grownBy w row) (n : Nat) : a.grownBy (w.drewN n) row := ⟨h.os, h.tape, h.output, h.size, h.block⟩
theorem grown_set {a w : World} {g : Nat} (h : a.grownBy w (some g)) (o : Nat) (u : Value) : a.grownBy (w.setCell ⟨g, o, none⟩ u) (some g) :=
  ⟨h.os, h.tape, h.output, by simpa [World.setCell] using h.size, fun i hi hne => (Below.heap_setCell w ⟨g, o, none⟩ u i (fun e => hne (by rw [e]))).trans (h.block i hi hne)⟩
theorem grown_trans {a b c : World} {row : Option Nat} (h : a.grownBy b row) (k : b.grownBy c row) : a.grownBy c row :=
  ⟨k.os.trans h.os, k.tape.trans h.tape, k.output.trans h.output, Nat.le_trans h.size k.size, fun i hi hne => (k.block i (Nat.lt_of_lt_of_le hi h.size) hne).trans (h.block i hi hne)⟩

set_option maxHeartbeats 1000000 in
theorem l1Byte_any (g : Nat) (A : Option Addr) (m c : Nat) (bs : List Int) (w : World) (hm : m ≤ maxLen) (hc : Cur w g A m c) (hr : Rd byteC 1 w g A m bs) (hb : ∀ x ∈ bs, 0 ≤ x ∧ x ≤ 255) :
    Calls Tryz.prog 88 #[.pointer (some ⟨g, 0, none⟩)] w fun e w' => ∃ x : Int, 0 ≤ x ∧ x ≤ 255 ∧ e = .returned (.int .i64 x) ∧ Cur w' g A m c ∧ w.grownBy w' (some g) := by
  unfold maxLen at hm
  obtain ⟨i, h, hi, hg⟩ := hc
  have c0 := cell_of_row w g 0 _ _ _ hg
  have c1 := cell_of_row w g 1 _ _ _ hg
  have c2 := cell_of_row w g 2 _ _ _ hg
  have f1 := frozen_of_row w g 1 _ _ hg
  have f2 := frozen_of_row w g 2 _ _ hg
  simp at c0 c1 c2
  by_cases hlt : i < m
  · obtain ⟨i, rfl⟩ := Int.eq_ofNat_of_zero_le hi
    obtain ⟨b, off, x, rfl, hbg, hx, hcx⟩ := hr.at_ (k := i) (by omega)
    have hc0 := hcx 0 _ rfl
    have hne : g ≠ b := by omega
    obtain ⟨x0, x1⟩ := hb x (List.mem_of_getElem? hx)
    simp only [Nat.mul_one, Nat.add_zero] at hc0
    clear hcx hx
    go_enter Tryz.func88, Tryz.ntmps88
    go_wp2
    go_quiet (fail)
    go_wp2
    go_quiet (fail)
    go_wp2
    go_quiet (fail)
    go_wp2
    go_ret
    exact ⟨_, (and255_bd _).1, (and255_bd _).2, rfl, ⟨_, _, by omega, cur_set1 (cur_set hg _) _⟩, by (repeat (first | exact World.grownBy.refl _ _ | assumption | refine grown_drewN ?_ _ | refine grown_set ?_ _ _))⟩
  · have hlt' : decide (i < (m : Int)) = false := by simp; omega
    go_enter Tryz.func88, Tryz.ntmps88
    go_wp2
    go_quiet (fail)
    go_wp2
    go_quiet (fail)
    go_wp2
    go_ret
    exact ⟨_, (and255_bd _).1, (and255_bd _).2, rfl, ⟨_, _, hi, cur_set hg _⟩, by (repeat (first | exact World.grownBy.refl _ _ | assumption | refine grown_drewN ?_ _ | refine grown_set ?_ _ _))⟩

set_option maxHeartbeats 1000000 in
theorem l1Below_any (g : Nat) (A : Option Addr) (m c : Nat) (bs : List Int) (n : Int) (w : World) (hn : 1 ≤ n) (hn2 : n ≤ 256) (hm : m ≤ maxLen) (hc : Cur w g A m c) (hr : Rd byteC 1 w g A m bs) (hb : ∀ x ∈ bs, 0 ≤ x ∧ x ≤ 255) :
    Calls Tryz.prog 43 #[.pointer (some ⟨g, 0, none⟩), .int .i64 n] w fun e w' => ∃ x : Nat, (x : Int) < n ∧ e = .returned (.int .i64 x) ∧ Cur w' g A m c ∧ w.grownBy w' (some g) := by
  have hnz : ¬ n = 0 := by omega
  go_enter Tryz.func43, Tryz.ntmps43
  go_wp2_with (go_at_call 88; refine (l1Byte_any _ _ _ _ bs _ hm hc hr hb).mono ?_; rintro e w1 ⟨x, x0, x1, rfl, hc1, hg1⟩)
  go_ret
  have e0 := Int.emod_nonneg x hnz
  have e1 := Int.emod_lt_of_pos x (show 0 < n by omega)
  exact ⟨(x % n).toNat, by omega, by rw [Int.toNat_of_nonneg e0]; rfl, hc1, hg1⟩

theorem below_of_grown {w0 w w' : World} {g : Nat} (h : Below w0.heap.size w0 w) (hg : w.grownBy w' (some g)) (hlt : w0.heap.size ≤ g) : Below w0.heap.size w0 w' :=
  h.grown hg h.size (fun k hk => by injection hk with hk; omega)

set_option maxRecDepth 100000 in
set_option maxHeartbeats 1000000 in
theorem l1New_any (A : Option Addr) (m c : Nat) (bs : List Int) (w : World) (hm : m ≤ 4096) (hr : Rd byteC 1 w w.heap.size A m bs) :
    Calls Tryz.prog 27 #[.slice A m c] w fun e w' => ∃ g, e = .returned (.pointer (some ⟨g, 0, none⟩)) ∧ w.heap.size ≤ g ∧ Cur w' g A m c ∧ Below w.heap.size w w' := by
  go_enter Tryz.func27, Tryz.ntmps27
  go_wp2
  go_loop [3, 4] (fun hs i => ∃ (k : Nat) (h : Int), k ≤ m ∧ k ≤ 4000 ∧ i = .int .i64 k ∧ hs = .int .i64 h) (fun _ i => m - (intOf i).toNat)
  case atStart => exact ⟨0, _, Nat.zero_le _, Nat.zero_le _, rfl, rfl⟩
  case round =>
    obtain ⟨k, h, hk, hk4, rfl, rfl⟩ := hrel
    by_cases hlt : k < m
    · by_cases h4 : k < 4000
      · obtain ⟨b, off, x, rfl, hbg, hx, hcx⟩ := hr.at_ hlt
        have hc0 := hcx 0 _ rfl
        simp only [Nat.mul_one, Nat.add_zero] at hc0
        clear hcx hx
        have hki : (k : Int) < (m : Int) := by omega
        have hk0 : (0 : Int) ≤ (k : Int) := by omega
        go_wp2
        go_round
        case rel => exact ⟨k + 1, _, by omega, by omega, by go_num, rfl⟩
        case measure => simp [intOf]; omega
      · go_wp2
        go_ret
        exact ⟨_, rfl, Nat.le_refl _, ⟨0, h, Int.le_refl _, heap_alloc_new w _⟩, by (repeat (first | with_reducible assumption | exact Below.refl _ _ | (refine Below.setCell ?_ (by first | exact Nat.le_refl _ | (simp; done) | omega | (simp; omega)) _) | (refine below_drewN ?_ _) | (refine Below.drew ?_) | (refine Below.alloc ?_ (by first | exact Nat.le_refl _ | (simp; done) | omega | (simp; omega)) _) | (refine then_ ?_ (by with_reducible assumption)) | assumption | (refine then_ ?_ (by assumption))))⟩
    · go_wp2
      go_ret
      exact ⟨_, rfl, Nat.le_refl _, ⟨0, h, Int.le_refl _, heap_alloc_new w _⟩, by (repeat (first | with_reducible assumption | exact Below.refl _ _ | (refine Below.setCell ?_ (by first | exact Nat.le_refl _ | (simp; done) | omega | (simp; omega)) _) | (refine below_drewN ?_ _) | (refine Below.drew ?_) | (refine Below.alloc ?_ (by first | exact Nat.le_refl _ | (simp; done) | omega | (simp; omega)) _) | (refine then_ ?_ (by with_reducible assumption)) | assumption | (refine then_ ?_ (by assumption))))⟩

/-! ### the eight symmetries -/
def allSyms : List (Int × Bool) := (List.range 8).map sym8
theorem infoSym : (Tryz.prog.info? 58).map (fun i => (i.zero, i.size, i.bytes)) = some (some (.agg #[.int .i64 0, .bool false]), 2, 16) := by kernel_rfl

set_option maxRecDepth 100000 in
set_option maxHeartbeats 2000000 in
theorem l1All_any (w : World) :
    Calls Tryz.prog 157 #[] w fun e w' => ∃ A c, e = .returned (.slice A 8 c) ∧ w'.ownsRow w.heap.size 58 2 (.slice A 8 c) 8 (flat symC allSyms) ∧ Below w.heap.size w w' := by
  obtain ⟨i0, hi, hz0, hz1, hz2⟩ := info_parts infoSym
  go_enter Tryz.func157, Tryz.ntmps157
  go_wp2
  go_loopw [1, 2] (fun v i wr => ∃ k : Nat, k ≤ 8 ∧ i = .int .i64 k ∧ (∃ A c, v = .slice A k c) ∧ wr.ownsRow w.heap.size 58 2 v k (flat symC ((List.range k).map sym8)) ∧ Below w.heap.size w wr) (fun _ i _ => 8 - (intOf i).toNat)
  case atStart => exact ⟨0, by omega, rfl, ⟨_, _, rfl⟩, World.ownsRow_lit w #[] 0 (Nat.le_refl _) (by simp [maxLen]) rfl, by (repeat (first | with_reducible assumption | exact Below.refl _ _ | (refine Below.setCell ?_ (by first | exact Nat.le_refl _ | (simp; done) | omega | (simp; omega)) _) | (refine below_drewN ?_ _) | (refine Below.drew ?_) | (refine Below.alloc ?_ (by first | exact Nat.le_refl _ | (simp; done) | omega | (simp; omega)) _) | (refine then_ ?_ (by with_reducible assumption)) | assumption | (refine then_ ?_ (by assumption))))⟩
  case round =>
    obtain ⟨k, hk, rfl, ⟨A, c, rfl⟩, hown, hw⟩ := hrel
    by_cases hlt : k < 8
    · have hk0 : (0 : Int) ≤ (k : Int) := by omega
      have hk8 : (k : Int) < 8 := by omega
      have OW := Lib.hid hown
      have hbz := hw.size
      clear hown
      go_wp2_with (at_builtin; refine wpList_append_own _ rfl _ _ 64 rfl w.heap.size 58 i0 (.agg #[.int .i64 0, .bool false]) 2 16 Tryz.underlying64 hi hz0 hz1 hz2 rfl (by decide) _ _ _ rfl (OW.out.alloc _) ⟨wr.heap.size, 0, none⟩ 1 1 [.int .i64 ((k : Int) % 4), .bool (decide ((4 : Int) ≤ k))] rfl rfl ?c1 ?c2 ?c3 ?c4 ?c5 ?_; (case c1 => exact World.news_of_block (cs := #[.int .i64 ((k : Int) % 4), .bool (decide ((4 : Int) ≤ k))]) (t := 58) (fr := (0, 0)) (heap_alloc_new wr _)); (case c2 => simp [Value.oneCell']); (case c3 => unfold maxLen; omega); (case c4 => omega); (case c5 => simp only [World.size_alloc]; omega); intro v1 w1 hown1 hg1 hne1; have OW1 := Lib.hid hown1; have BW1 := below_append hw OW.out hg1; clear hown1 hg1 hne1)
      obtain ⟨A1, c1, rfl⟩ := owns_slice OW1.out
      go_roundw
      case rel =>
        refine ⟨k + 1, by omega, by go_num, ⟨_, _, rfl⟩, ?_, BW1⟩
        have e : flat symC ((List.range (k + 1)).map sym8) = flat symC ((List.range k).map sym8) ++ [.int .i64 ((k : Int) % 4), .bool (decide ((4 : Int) ≤ k))] := by
          rw [List.range_succ, List.map_append, flat_append]
          congr 1
          simp only [List.map_cons, List.map_nil, flat_cons, flat_nil, List.append_nil, symC, sym8]
          have e1 : ((k % 4 : Nat) : Int) = (k : Int) % 4 := by omega
          have e2 : decide (4 ≤ k) = decide ((4 : Int) ≤ (k : Int)) := by
            rw [Bool.eq_iff_iff]; simp; omega
          rw [e1, e2]
        rw [e]
        exact OW1.out
      case measure => simp [intOf]; omega
    · obtain rfl : k = 8 := by omega
      go_wp2
      go_ret
      exact ⟨_, _, rfl, hown, hw⟩
end Go.Proofs.YthlphmojldbpkaaGreat

/- DrawSyms: three of the eight symmetries. -/
namespace Go.Proofs.YthlphmojldbpkaaGreat
open Go.RowKit

theorem Rd.sym {w : World} {B : Nat} {A : Option Addr} {n k : Nat} {xs : List (Int × Bool)} (h : Rd symC 2 w B A n xs) (hk : k < n) :
    ∃ b off t f, A = some ⟨b, off, none⟩ ∧ b < B ∧ xs[k]? = some (t, f) ∧ w.cell? ⟨b, off + k * 2, none⟩ = some (.int .i64 t) ∧ w.cell? ⟨b, off + k * 2 + 1, none⟩ = some (.bool f) := by
  obtain ⟨b, off, ⟨t, f⟩, e, hb, hx, hc⟩ := h.at_ hk
  exact ⟨b, off, t, f, e, hb, hx, hc 0 _ rfl, hc 1 _ rfl⟩
theorem gcell {w w1 : World} {g : Nat} (hg : w.grownBy w1 (some g)) : (∀ b o, b < w.heap.size → b ≠ g → w1.cell? ⟨b, o, none⟩ = w.cell? ⟨b, o, none⟩) ∧ (∀ b o, b < w.heap.size → b ≠ g → w1.frozen? ⟨b, o, none⟩ = w.frozen? ⟨b, o, none⟩) :=
  ⟨fun b o h hne => World.cell?_of_block (hg.block b h (fun e => hne (by injection e))), fun b o h hne => World.frozen?_of_block (hg.block b h (fun e => hne (by injection e)))⟩

end Go.Proofs.YthlphmojldbpkaaGreat
