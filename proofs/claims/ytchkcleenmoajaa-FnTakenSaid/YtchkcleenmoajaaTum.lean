
/- Beads and tumbles: IsTumble, Clone, cloneTumble; the program's. -/
import Derived.Test.YtchkcleenmoajaaFold
import Derived.Test.YtchkcleenmoajaaM9
import Derived.Maps.AppendAt
import Derived.Deep.RegionHeld3
namespace Go.Proofs.Ytchkcleenmoajaa
open Go.RowKit
attribute [local go_sem] run_store_float run_store_complex

abbrev Bd := Pt × Pt
def bdC (b : Bd) : List Value := [.complex .f32 b.1.1 b.1.2, .complex .f32 b.2.1 b.2.2]
theorem bdC_len (b : Bd) : (bdC b).length = 2 := rfl
def bdV (b : Bd) : Value := .agg #[.complex .f32 b.1.1 b.1.2, .complex .f32 b.2.1 b.2.2]
def okBd (mir : Int) (b : Bd) : Bool := wedgeB mir b.1 && pointB b.2.1 b.2.2
def tumB (mir : Int) (gr : Pt) (loss : Nat) (bs : List Bd) : Bool := inB mir 0 3 && (pointB gr.1 gr.2 && (partB loss && (decide (bs.length ≤ 8) && bs.all (okBd mir))))
theorem Rd.bd {w : World} {B : Nat} {A : Option Addr} {n k : Nat} {xs : List Bd} (h : Rd bdC 2 w B A n xs) (hk : k < n) :
    ∃ b off a c, A = some ⟨b, off, none⟩ ∧ b < B ∧ xs[k]? = some (a, c) ∧ w.cell? ⟨b, off + k * 2, none⟩ = some (.complex .f32 a.1 a.2) ∧ w.cell? ⟨b, off + k * 2 + 1, none⟩ = some (.complex .f32 c.1 c.2) := by
  obtain ⟨b, off, ⟨a, c⟩, e, hb, hx, hc⟩ := h.at_ hk
  exact ⟨b, off, a, c, e, hb, hx, hc 0 _ rfl, hc 1 _ rfl⟩

theorem allX_no {α : Type} {ls : List α} {p : α → Bool} {i : Nat} {x : α} (hx : ls[i]? = some x) (h : p x = false) : ls.all p = false := by
  rw [List.all_eq_false]
  exact ⟨x, List.mem_of_getElem? hx, by simp [h]⟩
theorem allX_yes {α : Type} {ls : List α} {p : α → Bool} (h : ∀ (i : Nat) x, ls[i]? = some x → p x = true) : ls.all p = true := by
  rw [List.all_eq_true]
  intro x hx
  obtain ⟨i, hi⟩ := List.getElem?_of_mem hx
  exact h i x hi

end Go.Proofs.Ytchkcleenmoajaa
