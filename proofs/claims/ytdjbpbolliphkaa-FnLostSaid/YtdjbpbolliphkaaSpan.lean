
/- The span of a speed: the greatest of its parts and of their opposites. -/
import Derived.Test.YtdjbpbolliphkaaTumT
import Derived.Test.YtdjbpbolliphkaaDrawT
namespace Go.Proofs.Ytdjbpbolliphkaa
open Go.RowKit
attribute [local go_sem] run_store_float run_store_complex

theorem negF_key {x : Nat} (h : finB x = true) : key (Go.Op.negFloat .f32 x) = -key x ∧ finB (Go.Op.negFloat .f32 x) = true := by
  have e : Go.Op.negFloat .f32 x = x ^^^ 2147483648 := rfl
  have h1 : (x ^^^ 2147483648) % 2147483648 = x % 2147483648 := by
    have := @Nat.xor_mod_two_pow x 2147483648 31
    have e2 : (2 : Nat) ^ 31 = 2147483648 := by decide
    rw [e2] at this
    rw [this]
    simp
  have h2 : (x ^^^ 2147483648) / 2147483648 % 2 = (x / 2147483648 + 1) % 2 := by
    have := @Nat.xor_div_two_pow x 2147483648 31
    have e2 : (2 : Nat) ^ 31 = 2147483648 := by decide
    rw [e2] at this
    rw [this, Nat.div_self (by omega)]
    have h3 := @Nat.xor_mod_two_pow (x / 2147483648) 1 1
    rw [Nat.pow_one] at h3
    rw [h3]
    have hc : x / 2147483648 % 2 = 0 ∨ x / 2147483648 % 2 = 1 := by omega
    rcases hc with h0 | h0
    · have h4 : (x / 2147483648 + 1) % 2 = 1 := by omega
      rw [h0, h4]; rfl
    · have h4 : (x / 2147483648 + 1) % 2 = 0 := by omega
      rw [h0, h4]; rfl
  rw [e]
  refine ⟨?_, ?_⟩
  · unfold key rung negB
    rw [h1, h2]
    have hc : x / 2147483648 % 2 = 0 ∨ x / 2147483648 % 2 = 1 := by omega
    rcases hc with h0 | h0
    · have h3 : (x / 2147483648 + 1) % 2 = 1 := by omega
      rw [h0, h3]; simp
    · have h3 : (x / 2147483648 + 1) % 2 = 0 := by omega
      rw [h0, h3]; simp
  · unfold finB at h ⊢
    rw [h1]; exact h
def maxB (x y : Nat) : Nat := match ordB x y with
  | some .lt => y
  | some .gt => x
  | some .eq => if (FloatKind.f32.decode x).neg then y else x
  | none => x
theorem maxB_key {x y : Nat} (hx : finB x = true) (hy : finB y = true) : key (maxB x y) = max (key x) (key y) ∧ finB (maxB x y) = true := by
  unfold maxB
  rw [ord_fin hx hy]
  rcases Int.lt_trichotomy (key x) (key y) with h | h | h
  · rw [Int.compare_eq_lt.2 h]; exact ⟨by dsimp only; omega, hy⟩
  · rw [Int.compare_eq_eq.2 h]
    dsimp only
    split
    · exact ⟨by omega, hy⟩
    · exact ⟨by omega, hx⟩
  · rw [Int.compare_eq_gt.2 h]; exact ⟨by dsimp only; omega, hx⟩
theorem run_max2 {x y : Nat} (hx : finB x = true) (hy : finB y = true) (w : World) : (Builtin.max2 (.float .f32 x) (.float .f32 y)).run Try.prog w = .ok (.float .f32 (maxB x y)) w := by
  have e : FloatKind.f32.format.order x y = ordB x y := rfl
  unfold Builtin.max2 maxB
  dsimp only
  rw [e, ord_fin hx hy]
  cases compare (key x) (key y) <;> rfl
theorem run_max4 {a b c d : Nat} (ha : finB a = true) (hb : finB b = true) (hc : finB c = true) (hd : finB d = true) (ts : Array TypeId) (t : TypeId) (w : World) :
    (Builtin.max_ ts t #[.float .f32 a, .float .f32 b, .float .f32 c, .float .f32 d]).run Try.prog w = .ok (.float .f32 (maxB (maxB (maxB a b) c) d)) w := by
  have h1 := (maxB_key ha hb).2
  have h2 := (maxB_key h1 hc).2
  unfold Builtin.max_
  simp [run_max2 ha hb, run_max2 h1 hc, run_max2 h2 hd]
def spanB (p : Pt) : Nat := maxB (maxB (maxB p.1 (Go.Op.negFloat .f32 p.1)) p.2) (Go.Op.negFloat .f32 p.2)
def spanZ (a : Int × Int) : Int := max (max (max a.1 (-a.1)) a.2) (-a.2)
theorem span_key {p : Pt} (h : finP p) : key (spanB p) = spanZ (keyP p) ∧ finB (spanB p) = true := by
  obtain ⟨n1, n2⟩ := negF_key h.1
  obtain ⟨m1, m2⟩ := negF_key h.2
  obtain ⟨a1, a2⟩ := maxB_key h.1 n2
  obtain ⟨b1, b2⟩ := maxB_key a2 h.2
  obtain ⟨c1, c2⟩ := maxB_key b2 m2
  refine ⟨?_, c2⟩
  unfold spanB spanZ keyP
  rw [c1, b1, a1, n1, m1]
theorem spanZ_aI {t : Int} {f : Bool} (ht : inB t 0 3 = true) (p : Int × Int) : spanZ (aI t f p) = spanZ p := by
  obtain ⟨x, y⟩ := p
  obtain ⟨k1, k2⟩ := inB_true ht
  have hc : t = 0 ∨ t = 1 ∨ t = 2 ∨ t = 3 := by omega
  rcases hc with rfl | rfl | rfl | rfl <;> cases f <;>
    simp only [a00, a10, a20, a30, a01, a11, a21, a31, spanZ] <;> omega
set_option maxHeartbeats 2000000 in
theorem span_any (p : Pt) (w : World) (h : finP p) :
    Calls Try.prog 14 #[.complex .f32 p.1 p.2] w fun e w' => e = .returned (.float .f32 (spanB p)) ∧ w = w' := by
  have kn := fun x w => run_neg_f32 (P := Try.prog) x w
  have k := fun ts t w => run_max4 h.1 (negF_key h.1).2 h.2 (negF_key h.2).2 ts t w
  go_enter Try.func14, Try.ntmps14
  go_wp2
  go_ret
  exact ⟨rfl, rfl⟩
end Go.Proofs.Ytdjbpbolliphkaa
