
/- What the symmetries of mirrors leave: two points of a wedge with the same images are the same. -/
import Derived.Test.YtchkcleenmoajaaM37
namespace Go.Proofs.Ytchkcleenmoajaa
open Go.RowKit

/-- what the symmetries of mirrors leave -/
def Inv (kind : Int) (p q : Int × Int) : Prop :=
  if kind = 0 then p = q else if kind = 1 then p.1 = q.1 ∧ p.2.natAbs = q.2.natAbs
  else if kind = 2 then p.1.natAbs = q.1.natAbs ∧ p.2.natAbs = q.2.natAbs
  else (p.1.natAbs = q.1.natAbs ∧ p.2.natAbs = q.2.natAbs) ∨ (p.1.natAbs = q.2.natAbs ∧ p.2.natAbs = q.1.natAbs)
theorem inv0 {p q : Int × Int} : Inv 0 p q ↔ p = q := by unfold Inv; simp
theorem inv1 {a b : Int} {q : Int × Int} : Inv 1 (a, b) q ↔ a = q.1 ∧ b.natAbs = q.2.natAbs := by unfold Inv; simp
theorem inv2 {a b : Int} {q : Int × Int} : Inv 2 (a, b) q ↔ a.natAbs = q.1.natAbs ∧ b.natAbs = q.2.natAbs := by unfold Inv; simp
theorem inv3 {a b : Int} {q : Int × Int} : Inv 3 (a, b) q ↔ (a.natAbs = q.1.natAbs ∧ b.natAbs = q.2.natAbs) ∨ (a.natAbs = q.2.natAbs ∧ b.natAbs = q.1.natAbs) := by unfold Inv; simp
theorem inv_step {kind : Int} (hk : inB kind 0 3 = true) {g : Int × Bool} (hg : g ∈ symsL kind) {p q : Int × Int} (h : Inv kind p q) : Inv kind (aI g.1 g.2 p) q := by
  obtain ⟨x, y⟩ := p
  rcases kinds hk with rfl | rfl | rfl | rfl
  · rw [syms0] at hg
    simp only [List.mem_cons, List.not_mem_nil, or_false] at hg
    subst hg
    exact h
  · rw [syms1] at hg
    simp only [List.mem_cons, List.not_mem_nil, or_false] at hg
    rw [inv1] at h
    rcases hg with rfl | rfl <;> dsimp only <;> rw [show ∀ f, aI 0 f (x, y) = (x, if f then -y else y) from fun f => rfl] <;> rw [inv1] <;> simp <;> omega
  · rw [syms2] at hg
    simp only [List.mem_cons, List.not_mem_nil, or_false] at hg
    rw [inv2] at h
    rcases hg with rfl | rfl | rfl | rfl <;> dsimp only <;> simp only [a00, a20, a01, a21] <;> rw [inv2] <;> omega
  · rw [syms3] at hg
    simp only [List.mem_cons, List.not_mem_nil, or_false] at hg
    rw [inv3] at h
    rcases hg with rfl | rfl | rfl | rfl | rfl | rfl | rfl | rfl <;> dsimp only <;> simp only [a00, a10, a20, a30, a01, a11, a21, a31] <;> rw [inv3] <;> omega
theorem inv_refl {kind : Int} (hk : inB kind 0 3 = true) (p : Int × Int) : Inv kind p p := by
  obtain ⟨x, y⟩ := p
  rcases kinds hk with rfl | rfl | rfl | rfl
  · exact inv0.2 rfl
  · exact inv1.2 ⟨rfl, rfl⟩
  · exact inv2.2 ⟨rfl, rfl⟩
  · exact inv3.2 (.inl ⟨rfl, rfl⟩)
/-- two points of a wedge that have the same images are the same -/
theorem inv_side {kind : Int} (hk : inB kind 0 3 = true) {p q r : Int × Int} (hp : sideI kind p = true) (hq : sideI kind q = true) (h1 : Inv kind p r) (h2 : Inv kind q r) : p = q := by
  obtain ⟨x, y⟩ := p
  obtain ⟨a, b⟩ := q
  rcases kinds hk with rfl | rfl | rfl | rfl
  · rw [inv0] at h1 h2
    rw [h1, h2]
  · rw [inv1] at h1 h2
    simp [sideI] at hp hq
    rw [Prod.mk.injEq]; omega
  · rw [inv2] at h1 h2
    simp [sideI] at hp hq
    rw [Prod.mk.injEq]; omega
  · rw [inv3] at h1 h2
    simp [sideI] at hp hq
    rw [Prod.mk.injEq]; omega
end Go.Proofs.Ytchkcleenmoajaa
