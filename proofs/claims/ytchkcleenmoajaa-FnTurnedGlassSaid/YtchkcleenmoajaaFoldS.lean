
/- IsPoint, l1Wedge, FoldPoint: the specification's. -/
import Derived.Test.YtchkcleenmoajaaFold
import Derived.Test.YtchkcleenmoajaaM9
namespace Go.Proofs.Ytchkcleenmoajaa
open Go.RowKit
attribute [local go_sem] run_store_float run_store_complex

def sideS (kind : Int) (p : Pt) : Bool := if kind = 0 then true else if kind = 1 then geB p.2 0 else if kind = 2 then geB p.1 0 && geB p.2 0 else if kind = 3 then geB p.2 0 && leB p.2 p.1 else false
def foldH (kind : Int) (z : Pt) (l : List (Int × Bool)) : Pt × (Int × Bool) × Bool := match l.find? (fun g => sideS kind (actS g.1 g.2 z.1 z.2)) with
  | some g => (actS g.1 g.2 z.1 z.2, g, true)
  | none => ((0, 0), (0, false), false)
def foldS (kind : Int) (z : Pt) : Pt × (Int × Bool) × Bool := if pointB z.1 z.2 then foldH kind z (symsL kind) else ((0, 0), (0, false), false)
theorem foldH_hit {kind : Int} {z : Pt} {l : List (Int × Bool)} {k : Nat} {g : Int × Bool} (hx : l[k]? = some g) (hall : ∀ (i : Nat) y, i < k → l[i]? = some y → sideS kind (actS y.1 y.2 z.1 z.2) = false) (h : sideS kind (actS g.1 g.2 z.1 z.2) = true) : foldH kind z l = (actS g.1 g.2 z.1 z.2, g, true) := by
  unfold foldH
  have : l.find? (fun g => sideS kind (actS g.1 g.2 z.1 z.2)) = some g := by
    obtain ⟨hk1, hk2⟩ := (List.getElem?_eq_some_iff.1 hx)
    rw [List.find?_eq_some_iff_getElem]
    exact ⟨h, k, hk1, hk2, fun j hj => by simpa using hall j _ hj (List.getElem?_eq_getElem (by omega))⟩
  rw [this]
theorem foldH_miss {kind : Int} {z : Pt} {l : List (Int × Bool)} (hall : ∀ (i : Nat) y, l[i]? = some y → sideS kind (actS y.1 y.2 z.1 z.2) = false) : foldH kind z l = ((0, 0), (0, false), false) := by
  unfold foldH
  have : l.find? (fun g => sideS kind (actS g.1 g.2 z.1 z.2)) = none := by
    rw [List.find?_eq_none]
    intro x hx
    obtain ⟨i, hi⟩ := List.getElem?_of_mem hx
    simp [hall i x hi]
  rw [this]
theorem symsL_in {kind : Int} : ∀ g ∈ symsL kind, inB g.1 0 3 = true := by
  intro g hg
  unfold symsL symsUp at hg
  obtain ⟨h1, _⟩ := List.mem_filter.1 hg
  obtain ⟨k, hk, rfl⟩ := List.mem_map.1 h1
  exact sym8_t k (by simpa using hk)

end Go.Proofs.Ytchkcleenmoajaa
