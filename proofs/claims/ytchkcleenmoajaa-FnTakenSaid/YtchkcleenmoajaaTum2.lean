
/- Clone of beads, cloneTumble: the program's. -/
import Derived.Test.YtchkcleenmoajaaTum
namespace Go.Proofs.Ytchkcleenmoajaa
open Go.RowKit
attribute [local go_sem] run_store_float run_store_complex

/-- a read row's cells, one by one -/
theorem Rd.cells {α : Type} {enc : α → List Value} {sz : Nat} (he : ∀ x, (enc x).length = sz) (hsz : 0 < sz) {w : World} {B : Nat} {ad : Addr} {n : Nat} {xs : List α} (h : Rd enc sz w B (some ad) n xs) :
    ∀ j u, (flat enc xs)[j]? = some u → w.cell? (ad.add j) = some u := by
  intro j u hu
  have hj : j < xs.length * sz := by
    have := (List.getElem?_eq_some_iff.1 hu).1
    rwa [flat_length he] at this
  have hn : 0 < n := by
    have := h.1
    rcases Nat.eq_zero_or_pos n with h0 | h0
    · rw [h0] at this; rw [this, Nat.zero_mul] at hj; omega
    · exact h0
  obtain ⟨b, off, e, hb, hc⟩ := h.2 hn
  injection e with e
  subst e
  have hk : j / sz < xs.length := Nat.div_lt_of_lt_mul (by rw [Nat.mul_comm]; exact hj)
  have hx : xs[j / sz]? = some xs[j / sz] := List.getElem?_eq_getElem hk
  have hi : j % sz < (enc xs[j / sz]).length := by rw [he]; exact Nat.mod_lt _ hsz
  have hv : (enc xs[j / sz])[j % sz]? = some (enc xs[j / sz])[j % sz] := List.getElem?_eq_getElem hi
  have h1 := flat_get he xs _ _ hx _ _ hv
  have e2 : j / sz * sz + j % sz = j := by rw [Nat.mul_comm]; exact Nat.div_add_mod j sz
  rw [e2, hu] at h1
  injection h1 with h1
  have h2 := hc _ _ hx _ _ hv
  rw [← h1] at h2
  unfold Addr.add
  split
  · rename_i h0
    subst h0
    simpa using h2
  · show w.cell? ⟨b, off + j, none⟩ = some u
    rw [Nat.add_assoc, e2] at h2
    exact h2
theorem bdC_one (xs : List Bd) : ∀ u ∈ flat bdC xs, u.oneCell' = true := by
  intro u hu
  unfold flat at hu
  obtain ⟨b, _, hb⟩ := List.mem_flatMap.1 hu
  simp [bdC] at hb
  rcases hb with rfl | rfl <;> rfl

end Go.Proofs.Ytchkcleenmoajaa
