
/- Cells and the symmetries that take them to cells: plain arithmetic. No program. -/
import Derived.Test.YthlkpopmoodmgaaCell
import Derived.Test.YthlkpopmoodmgaaCellTo
import Derived.Test.YthlkpopmoodmgaaMem
namespace Go.Proofs.Ythlkpopmoodmgaa

def cellOk (s k g : Nat) : Bool :=
  let q := cellI (s + 1) k (sym8 g).1 (sym8 g).2
  okCell (s + 1) q && decide (ptI (s + 1) q = aI (sym8 g).1 (sym8 g).2 (ptI (s + 1) k)) && decide (cellI (s + 1) q (backP (sym8 g).1 (sym8 g).2).1 (backP (sym8 g).1 (sym8 g).2).2 = k)
def cellsOk : Bool := (List.range 8).all fun s => (List.range ((s + 1) * (s + 1))).all fun k => (List.range 8).all fun g => cellOk s k g
theorem cellsOk_true : cellsOk = true := by decide +kernel
theorem cells_all (s k g : Nat) (hs : s < 8) (hk : k < (s + 1) * (s + 1)) (hg : g < 8) :
    okCell (s + 1) (cellI (s + 1) k (sym8 g).1 (sym8 g).2) = true ∧ ptI (s + 1) (cellI (s + 1) k (sym8 g).1 (sym8 g).2) = aI (sym8 g).1 (sym8 g).2 (ptI (s + 1) k) ∧
    cellI (s + 1) (cellI (s + 1) k (sym8 g).1 (sym8 g).2) (backP (sym8 g).1 (sym8 g).2).1 (backP (sym8 g).1 (sym8 g).2).2 = k := by
  have h := cellsOk_true
  unfold cellsOk at h
  have h1 := List.all_eq_true.1 h s (List.mem_range.2 hs)
  have h2 := List.all_eq_true.1 h1 k (List.mem_range.2 hk)
  have h3 := List.all_eq_true.1 h2 g (List.mem_range.2 hg)
  simp only [cellOk, Bool.and_eq_true, decide_eq_true_eq] at h3
  exact ⟨h3.1.1, h3.1.2, h3.2⟩

theorem then_all : ∀ g : Nat, g < 8 → ∀ h : Nat, h < 8 → ∀ p : Int × Int,
    aI (sym8 h).1 (sym8 h).2 (aI (sym8 g).1 (sym8 g).2 p) = aI (thenP (sym8 g).1 (sym8 g).2 (sym8 h).1 (sym8 h).2).1 (thenP (sym8 g).1 (sym8 g).2 (sym8 h).1 (sym8 h).2).2 p := by
  intro g hg h hh p
  obtain ⟨x, y⟩ := p
  have e : ∀ g : Nat, g < 8 → g = 0 ∨ g = 1 ∨ g = 2 ∨ g = 3 ∨ g = 4 ∨ g = 5 ∨ g = 6 ∨ g = 7 := by omega
  rcases e g hg with rfl | rfl | rfl | rfl | rfl | rfl | rfl | rfl <;> rcases e h hh with rfl | rfl | rfl | rfl | rfl | rfl | rfl | rfl <;>
    simp [sym8, aI, thenP, thenT, inB, rIN, rI]

theorem sym8_ok : ∀ g : Nat, g < 8 → inB (sym8 g).1 0 3 = true := by decide
theorem back_ok : ∀ g : Nat, g < 8 → inB (backP (sym8 g).1 (sym8 g).2).1 0 3 = true := by decide
theorem then_ok : ∀ g : Nat, g < 8 → ∀ h : Nat, h < 8 → inB (thenP (sym8 g).1 (sym8 g).2 (sym8 h).1 (sym8 h).2).1 0 3 = true := by decide

theorem okCell_of (s k : Nat) (hs : s < 8) (hk : k < (s + 1) * (s + 1)) : okCell (s + 1) k = true := by
  have h1 : ((k : Nat) : Int) < ((s + 1 : Nat) : Int) * ((s + 1 : Nat) : Int) := by
    have h : ((k : Nat) : Int) < (((s + 1) * (s + 1) : Nat) : Int) := Int.ofNat_lt.2 hk
    rwa [Int.natCast_mul] at h
  have e : ((s + 1 : Nat) : Int) = (s : Int) + 1 := by omega
  rw [e] at h1
  simp only [okCell, inB, Bool.and_eq_true, decide_eq_true_eq]
  exact ⟨⟨by omega, by omega⟩, by omega, by omega⟩

theorem cells_round (s k i j : Nat) (hs : s < 8) (hk : k < (s + 1) * (s + 1)) (hi : i < 8) (hj : j < 8) : ∃ T C X Y : Int,
    okCell (s + 1) k = true ∧ cellV (s + 1) k (sym8 i).1 (sym8 i).2 = T ∧ okCell (s + 1) T = true ∧ ptI (s + 1) T = (X, Y) ∧
    actI (sym8 i).1 (sym8 i).2 (fl (ptI (s + 1) k).1) (fl (ptI (s + 1) k).2) = (fl X, fl Y) ∧ pointB (fl (ptI (s + 1) k).1) (fl (ptI (s + 1) k).2) = true ∧
    -8 ≤ X ∧ X ≤ 8 ∧ -8 ≤ Y ∧ Y ≤ 8 ∧ cellV (s + 1) T (sym8 j).1 (sym8 j).2 = C ∧
    cellV (s + 1) k (thenP (sym8 i).1 (sym8 i).2 (sym8 j).1 (sym8 j).2).1 (thenP (sym8 i).1 (sym8 i).2 (sym8 j).1 (sym8 j).2).2 = C ∧
    cellV (s + 1) T (backP (sym8 i).1 (sym8 i).2).1 (backP (sym8 i).1 (sym8 i).2).2 = k := by
  obtain ⟨c1, c2, c3⟩ := cells_all s k i hs hk hi
  have k0 := okCell_of s k hs hk
  have v : ∀ (c t : Int) (f : Bool), okCell (s + 1) c = true → inB t 0 3 = true → cellV (s + 1) c t f = cellI (s + 1) c t f := fun c t f h1 h2 => by unfold cellV; rw [h1, h2]; rfl
  have hsm := (ptI_sm k0).mono (c := 8) (by omega)
  have ha := aI_sm hsm (sym8 i).1 (sym8 i).2
  obtain ⟨a1, a2, a3, a4⟩ := ha
  refine ⟨cellI (s + 1) k (sym8 i).1 (sym8 i).2, cellI (s + 1) (cellI (s + 1) k (sym8 i).1 (sym8 i).2) (sym8 j).1 (sym8 j).2, (aI (sym8 i).1 (sym8 i).2 (ptI (s + 1) k)).1, (aI (sym8 i).1 (sym8 i).2 (ptI (s + 1) k)).2,
    k0, v _ _ _ k0 (sym8_ok i hi), c1, c2, actI_small hsm _ _, point_small hsm, a1, a2, a3, a4, v _ _ _ c1 (sym8_ok j hj), ?_, (v _ _ _ c1 (back_ok i hi)).trans c3⟩
  rw [v _ _ _ k0 (then_ok i hi j hj)]
  unfold cellI
  rw [← then_all i hi j hj]
  congr 2
  exact c2.symm
end Go.Proofs.Ythlkpopmoodmgaa
