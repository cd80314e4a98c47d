
/- Marks on rows of the call's own, and what is held: ints. -/
import Derived.Test.YtkhlaifjfdecoaaSyms
namespace Go.Proofs.Ytkhlaifjfdecoaa
open Go.RowKit
attribute [local go_sem] run_store_float run_store_complex

theorem owns_grown {w w' : World} {base : Nat} {E : TypeId} {sz : Nat} {v : Value} {n : Nat} {xs : List Value} {row : Option Nat} (h : w.ownsRow base E sz v n xs) (hg : w.grownBy w' row) (hne : ∀ g, row = some g → Off v g) : w'.ownsRow base E sz v n xs := by
  refine h.kept hg ?_
  cases hv : v.ownBlock with
  | none => exact .inl rfl
  | some k =>
    refine .inr fun e => ?_
    exact hne k e.symm hv
/-- what writes only the row of 'v' leaves what lies below v's base -/
theorem below_owned {w w' : World} {base : Nat} {E : TypeId} {sz : Nat} {v : Value} {n : Nat} {xs : List Value} (h : w.ownsRow base E sz v n xs) (hg : w.grownBy w' v.ownBlock) (hb : base ≤ w.heap.size) : Below base w w' :=
  (Below.refl _ _).grown hg hb (fun k hk => (h.lt k hk).1)
theorem off_of {w w1 : World} {base : Nat} {E E1 : TypeId} {sz sz1 : Nat} {v v1 : Value} {n n1 : Nat} {xs xs1 : List Value} (h : w.ownsRow base E sz v n xs) (h1 : w1.ownsRow w.heap.size E1 sz1 v1 n1 xs1) : ∀ g, v1.ownBlock = some g → Off v g := by
  intro g hg hv
  have a := (h1.lt g hg).1
  have b := (h.lt g hv).2
  omega
theorem off_of' {w w1 : World} {base B1 : Nat} {E E1 : TypeId} {sz sz1 : Nat} {v v1 : Value} {n n1 : Nat} {xs xs1 : List Value} (h : w.ownsRow base E sz v n xs) (h1 : w1.ownsRow B1 E1 sz1 v1 n1 xs1) (hB : w.heap.size ≤ B1) : ∀ g, v.ownBlock = some g → Off v1 g := by
  intro g hg hv
  have a := (h1.lt g hv).1
  have b := (h.lt g hg).2
  omega

def marksI (k : Int) (n : Nat) : List Int := (List.range n).map (fun (j : Nat) => k + (j : Int))
theorem marksI_len (k : Int) (n : Nat) : (marksI k n).length = n := by simp [marksI]
theorem marksI_at {k : Int} {n j : Nat} (h : j < n) : (marksI k n)[j]? = some (k + j) := by simp [marksI, h]

theorem Rd.int {w : World} {B : Nat} {A : Option Addr} {n k : Nat} {xs : List Int} (h : Rd intC 1 w B A n xs) (hk : k < n) :
    ∃ b off x, A = some ⟨b, off, none⟩ ∧ b < B ∧ xs[k]? = some x ∧ w.cell? ⟨b, off + k, none⟩ = some (.int .i64 x) := by
  obtain ⟨b, off, x, e, hb, hx, hc⟩ := h.at_ hk
  have := hc 0 _ rfl
  rw [Nat.mul_one, Nat.add_zero] at this
  exact ⟨b, off, x, e, hb, hx, this⟩

end Go.Proofs.Ytkhlaifjfdecoaa
