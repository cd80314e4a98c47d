
/- The draw of a picture. -/
import Derived.Test.YtchkcleenmoajaaM23
import Derived.Test.YtchkcleenmoajaaM27
import Derived.Test.YtchkcleenmoajaaM30
namespace Go.Proofs.Ytchkcleenmoajaa
open Go.RowKit
attribute [local go_sem] run_store_float run_store_complex

/-- a colour of two -/
theorem few_ok {c1 c2 x : Col} (h1 : colB c1 = true) (h2 : colB c2 = true) {y : Nat} (hx : [c1, c2][y]? = some x) : colB x = true := by
  have := List.mem_of_getElem? hx
  simp at this
  rcases this with rfl | rfl
  · exact h1
  · exact h2

theorem spread_pic {q : Nat} {xs : List Col} {kk : Nat} (hp : Pic q xs) (hk : kk < 4) : spreadL (kk : Int) ((q : Int) + 1) xs = ((q : Int) + 1, spreadUp (kk : Int) ((q : Int) + 1) xs xs.length) ∧ Pic q (spreadUp (kk : Int) ((q : Int) + 1) xs xs.length) := by
  have h1 : inB (kk : Int) 0 3 = true := by unfold inB; simp; omega
  refine ⟨by unfold spreadL; rw [h1, pic_ok hp]; rfl, hp.1, by rw [spreadUp_len]; exact hp.2.1, all_yes fun i x hx => ?_⟩
  unfold spreadUp at hx
  have hi : i < xs.length := by have := (List.getElem?_eq_some_iff.1 hx).1; simpa using this
  rw [List.getElem?_map, List.getElem?_range hi] at hx
  simp only [Option.map_some, Option.some.injEq] at hx
  have hb := firstI_bd (kind := (kk : Int)) (okCell_of q i hp.1 (by rw [← hp.2.1]; exact hi))
  have hj : (firstI (kk : Int) ((q : Int) + 1) (i : Int)).toNat < xs.length := by omega
  rw [List.getD_eq_getElem?_getD, List.getElem?_eq_getElem hj] at hx
  simp only [Option.getD_some] at hx
  rw [← hx]
  exact List.all_eq_true.1 hp.2.2 _ (List.getElem_mem _)

end Go.Proofs.Ytchkcleenmoajaa
