
/- Quotients of small whole numbers that the draws use: they are points' parts. No program. -/
import Derived.Test.YthlphmojldbpkaaGreatM3
namespace Go.Proofs.YthlphmojldbpkaaGreat

def okW (x : Nat) : Bool := reachB x && decide (x < 4294967296)
def quoW (a : Int) (d : Nat) : Nat := match floatBits .quo .f32 (fl a) d with | some r => r | none => 0
def quoOk (a : Int) (d : Nat) : Bool := match floatBits .quo .f32 (fl a) d with | some r => okW r && okW (Go.Op.negFloat .f32 r) | none => false
theorem quoOk_spec {a : Int} {d : Nat} (h : quoOk a d = true) : floatBits .quo .f32 (fl a) d = some (quoW a d) ∧ okW (quoW a d) = true ∧ okW (Go.Op.negFloat .f32 (quoW a d)) = true := by
  unfold quoOk at h
  unfold quoW
  cases hq : floatBits .quo .f32 (fl a) d with
  | none => rw [hq] at h; cases h
  | some r =>
    rw [hq] at h
    dsimp only at h ⊢
    rw [Bool.and_eq_true] at h
    exact ⟨rfl, h.1, h.2⟩
theorem quo8_all : ∀ k : Nat, k < 81 → quoOk ((k : Int) - 40) 1090519040 = true := by decide +kernel
theorem quo10_all : ∀ k : Nat, k < 81 → quoOk ((k : Int) - 40) 1092616192 = true := by decide +kernel
theorem fine_1 : ∀ k : Nat, k < 1281 → quoOk ((k : Int) - 640) 1065353216 = true := by decide +kernel
theorem fine_2 : ∀ k : Nat, k < 1281 → quoOk ((k : Int) - 640) 1073741824 = true := by decide +kernel
theorem fine_16 : ∀ k : Nat, k < 1281 → quoOk ((k : Int) - 640) 1098907648 = true := by decide +kernel
theorem fine_64 : ∀ k : Nat, k < 1281 → quoOk ((k : Int) - 640) 1115684864 = true := by decide +kernel
theorem fine_100 : ∀ k : Nat, k < 1281 → quoOk ((k : Int) - 640) 1120403456 = true := by decide +kernel
theorem fine_3 : ∀ k : Nat, k < 1281 → quoOk ((k : Int) - 640) 1077936128 = true := by decide +kernel
theorem at_shift {lo hi : Int} {d n : Nat} (h : ∀ k : Nat, k < n → quoOk ((k : Int) - hi) d = true) (h1 : -hi = lo) (hn : (n : Int) = 2 * hi + 1) {a : Int} (ha : lo ≤ a) (hb : a ≤ hi) : quoOk a d = true := by
  have := h (a + hi).toNat (by omega)
  have e : (((a + hi).toNat : Nat) : Int) - hi = a := by omega
  rw [e] at this
  exact this
end Go.Proofs.YthlphmojldbpkaaGreat
