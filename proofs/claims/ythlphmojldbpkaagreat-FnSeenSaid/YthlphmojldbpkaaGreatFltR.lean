
/- Quotients that the draws divide again by sixteen. No program. -/
import Derived.Test.YthlphmojldbpkaaGreatFltQ
namespace Go.Proofs.YthlphmojldbpkaaGreat

def sixW (x : Nat) : Nat := match floatBits .quo .f32 x 1098907648 with | some r => r | none => 0
def sixOk (x : Nat) : Bool := match floatBits .quo .f32 x 1098907648 with | some r => okW r | none => false
theorem sixOk_spec {x : Nat} (h : sixOk x = true) : floatBits .quo .f32 x 1098907648 = some (sixW x) ∧ okW (sixW x) = true := by
  unfold sixOk at h
  unfold sixW
  cases hq : floatBits .quo .f32 x 1098907648 with
  | none => rw [hq] at h; cases h
  | some r => rw [hq] at h; exact ⟨rfl, h⟩
theorem six_1 : ∀ k : Nat, k < 1281 → (quoOk ((k : Int) - 640) 1065353216 && sixOk (quoW ((k : Int) - 640) 1065353216)) = true := by decide +kernel
theorem six_2 : ∀ k : Nat, k < 1281 → (quoOk ((k : Int) - 640) 1073741824 && sixOk (quoW ((k : Int) - 640) 1073741824)) = true := by decide +kernel
theorem six_16 : ∀ k : Nat, k < 1281 → (quoOk ((k : Int) - 640) 1098907648 && sixOk (quoW ((k : Int) - 640) 1098907648)) = true := by decide +kernel
theorem six_64 : ∀ k : Nat, k < 1281 → (quoOk ((k : Int) - 640) 1115684864 && sixOk (quoW ((k : Int) - 640) 1115684864)) = true := by decide +kernel
theorem six_100 : ∀ k : Nat, k < 1281 → (quoOk ((k : Int) - 640) 1120403456 && sixOk (quoW ((k : Int) - 640) 1120403456)) = true := by decide +kernel
theorem six_3 : ∀ k : Nat, k < 1281 → (quoOk ((k : Int) - 640) 1077936128 && sixOk (quoW ((k : Int) - 640) 1077936128)) = true := by decide +kernel
theorem six_at {d n : Nat} {hi : Int} (h : ∀ k : Nat, k < n → (quoOk ((k : Int) - hi) d && sixOk (quoW ((k : Int) - hi) d)) = true) (hn : (n : Int) = 2 * hi + 1) {a : Int} (ha : -hi ≤ a) (hb : a ≤ hi) : quoOk a d = true ∧ sixOk (quoW a d) = true := by
  have := h (a + hi).toNat (by omega)
  have e : (((a + hi).toNat : Nat) : Int) - hi = a := by omega
  rw [e, Bool.and_eq_true] at this
  exact this
end Go.Proofs.YthlphmojldbpkaaGreat
