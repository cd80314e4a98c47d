
/- FoldPoint of the specification: its place lies in the wedge. Plain. -/
import Derived.Test.YtdjbpbolliphkaaTumL
import Derived.Test.YtdjbpbolliphkaaFoldS
import Derived.Test.YtdjbpbolliphkaaFltZ
namespace Go.Proofs.Ytdjbpbolliphkaa
open Go.RowKit

theorem actS_key {t : Int} {f : Bool} {re im : Nat} (h : finP (re, im)) : keyP (actS t f re im) = aI t f (keyP (re, im)) ∧ finP (actS t f re im) := by
  obtain ⟨h1, h2⟩ := h
  obtain ⟨x1, x2, _⟩ := add_key h1
  obtain ⟨y1, y2, _⟩ := add_key h2
  obtain ⟨a, b⟩ := flip_key (f := f) y2
  obtain ⟨c, d⟩ := rotN_key (p := (addB re 0, flipB f (addB im 0))) ⟨x2, b⟩ t.toNat
  refine ⟨?_, d⟩
  unfold actS
  rw [c]
  unfold aI keyP
  dsimp only
  rw [a, x1, y1]
theorem sideS_eq {kind : Int} {p : Pt} (h : finP p) : sideS kind p = sideB kind p := by
  unfold sideS sideB
  rw [ge_le h.2 (show finB 0 = true by decide)]
theorem foldS_wedge {kind : Int} (hk : inB kind 0 3 = true) (z : Pt) : wedgeB kind (foldS kind z).1 = true := by
  have h0 : wedgeB kind (0, 0) = true := by
    obtain ⟨k1, k2⟩ := inB_true hk
    have hc : kind = 0 ∨ kind = 1 ∨ kind = 2 ∨ kind = 3 := by omega
    rcases hc with rfl | rfl | rfl | rfl <;> decide +kernel
  unfold foldS
  split
  · rename_i hp
    unfold foldH
    split
    · rename_i g hg
      have h1 := List.find?_some hg
      have hf := point_fin hp
      obtain ⟨a, b⟩ := actS_key (t := g.1) (f := g.2) (re := z.1) (im := z.2) hf
      have h2 : pointB (actS g.1 g.2 z.1 z.2).1 (actS g.1 g.2 z.1 z.2).2 = true := by
        rw [point_key b, a]
        exact aI_sm ((point_key hf).1 hp) _ _
      unfold wedgeB
      rw [Bool.and_eq_true]
      refine ⟨h2, ?_⟩
      dsimp only
      rw [← sideS_eq b]
      exact h1
    · exact h0
  · exact h0
end Go.Proofs.Ytdjbpbolliphkaa
