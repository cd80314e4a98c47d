
/- A law's argument: slices of structs of floats, opened. -/
import Derived.Test.YtchkcleenmoajaaM15
import Derived.ProofKit
import Derived.ChangeOld
import Derived.Deep.Slices
import Derived.Lib.SmallJoins
namespace Go.Proofs.Ytchkcleenmoajaa
open Go.ChangeShapes Go.WideShapes Go.ChangeAt Go.RowKit Go.Joins Go.Deep

section
variable {H : Type} {enc : TypeId × Value → H} {P : Program} {w : World} {base : Nat} {spare : Nat → Bool} {held : Bool}
theorem trod_float {t : TypeId} {k : FloatKind} {v : Value} {fuel : Nat} {y : DataW H × List MemPlace} (ht : P.underlying t = some (.float k)) (h : DataW.trod enc P w base spare held fuel t [v] = some y) : ∃ b, v = .float k b := by
  cases fuel with
  | zero => simp [DataW.trod] at h
  | succ n =>
    unfold DataW.trod at h
    rw [ht] at h
    cases v <;> simp at h
    rename_i k' b
    by_cases e : k' = k
    · subst e; exact ⟨b, rfl⟩
    · exfalso; revert h; simp_all
end

theorem list_of {α : Type} (n : Nat) (p : Nat → α → Prop) (h : ∀ i, i < n → ∃ x, p i x) : ∃ xs : List α, xs.length = n ∧ ∀ (k : Nat) x, xs[k]? = some x → p k x := by
  induction n with
  | zero => exact ⟨[], rfl, fun k x hx => by simp at hx⟩
  | succ n ih =>
    obtain ⟨xs, hl, hp⟩ := ih (fun i hi => h i (by omega))
    obtain ⟨x, hx⟩ := h n (by omega)
    refine ⟨xs ++ [x], by simp [hl], fun k y hy => ?_⟩
    by_cases hk : k < n
    · rw [List.getElem?_append_left (by omega)] at hy
      exact hp k y hy
    · have hkn : k = n := by
        have := (List.getElem?_eq_some_iff.1 hy).1
        simp [hl] at this
        omega
      subst hkn
      rw [List.getElem?_append_right (by omega), hl] at hy
      simp at hy
      subst hy
      exact hx

/-- cells at the places of a row, brought into the form 'Rd' -/
theorem rd_of_cells {α : Type} {enc : α → List Value} {sz : Nat} {w : World} {a : Addr} {n : Nat} (hsz : 0 < sz) (he : ∀ x, (enc x).length = sz)
    (h : ∀ i, i < n → ∃ x : α, ∀ j u, (enc x)[j]? = some u → w.cell? (a.add (i * sz + j)) = some u) : ∃ xs, Rd enc sz w w.heap.size (some a) n xs := by
  obtain ⟨xs, hl, hp⟩ := list_of n _ h
  refine ⟨xs, hl, fun hn => ?_⟩
  obtain ⟨x, hx⟩ := h 0 hn
  have h0 : ∃ u, (enc x)[0]? = some u := ⟨_, List.getElem?_eq_getElem (by rw [he]; exact hsz)⟩
  obtain ⟨u, hu⟩ := h0
  have hc := hx 0 u hu
  have ha : a.add (0 * sz + 0) = a := by simp [Addr.add]
  rw [ha] at hc
  have hs : a.spot = none := by
    unfold World.cell? at hc
    split at hc
    · cases hsp : a.spot with
      | none => rfl
      | some q => simp [hsp] at hc
    · cases hc
  obtain ⟨b, off, sp⟩ := a
  simp only at hs
  subst hs
  refine ⟨b, off, rfl, World.block_lt_of_cell? w _ hc, fun k x hx j u hu => ?_⟩
  have := hp k x hx j u hu
  unfold Addr.add at this
  split at this
  · rename_i h0
    rw [show off + k * sz + j = off from by omega]
    exact this
  · rw [show off + k * sz + j = off + (k * sz + j) from by omega]
    exact this

theorem rd_of_cells_q {α : Type} {enc : α → List Value} {sz : Nat} {w : World} {a : Addr} {n : Nat} {Q : α → Prop} (hsz : 0 < sz) (he : ∀ x, (enc x).length = sz)
    (h : ∀ i, i < n → ∃ x : α, Q x ∧ ∀ j u, (enc x)[j]? = some u → w.cell? (a.add (i * sz + j)) = some u) : ∃ xs, Rd enc sz w w.heap.size (some a) n xs ∧ ∀ x ∈ xs, Q x := by
  obtain ⟨xs, hl, hp⟩ := list_of n _ h
  refine ⟨xs, ⟨hl, fun hn => ?_⟩, fun x hx => ?_⟩
  · obtain ⟨x, _, hx⟩ := h 0 hn
    have h0 : ∃ u, (enc x)[0]? = some u := ⟨_, List.getElem?_eq_getElem (by rw [he]; exact hsz)⟩
    obtain ⟨u, hu⟩ := h0
    have hc := hx 0 u hu
    have ha : a.add (0 * sz + 0) = a := by simp [Addr.add]
    rw [ha] at hc
    have hs : a.spot = none := by
      unfold World.cell? at hc
      split at hc
      · cases hsp : a.spot with
        | none => rfl
        | some q => simp [hsp] at hc
      · cases hc
    obtain ⟨b, off, sp⟩ := a
    simp only at hs
    subst hs
    refine ⟨b, off, rfl, World.block_lt_of_cell? w _ hc, fun k x hx j u hu => ?_⟩
    have := (hp k x hx).2 j u hu
    unfold Addr.add at this
    split at this
    · rename_i h0
      rw [show off + k * sz + j = off from by omega]
      exact this
    · rw [show off + k * sz + j = off + (k * sz + j) from by omega]
      exact this
  · obtain ⟨k, hk⟩ := List.getElem?_of_mem hx
    exact (hp k x hk).1

section
variable {H : Type} {enc : TypeId × Value → H} {P : Program} {w : World} {base : Nat} {spare : Nat → Bool} {held : Bool}
/-- a slice of bytes -/
theorem open_bytes {r : Reach} {b0 : Nat} {t e : TypeId} {v : Value} {d : DataW H} {ps : List MemPlace} (ht : P.underlying t = some (.slice e)) (he : P.underlying e = some (.int .u8)) (hc : P.cellsOf e = 1)
    (hv : Value.okWide P w r b0 t v) (h : DataW.Trod enc P w base spare held t v d ps) :
    ∃ A n c bs, v = .slice A n c ∧ n ≤ maxLen ∧ Rd byteC 1 w w.heap.size A n bs ∧ ∀ x ∈ bs, 0 ≤ x ∧ x ≤ 255 := by
  obtain ⟨a0, len, cap, rfl⟩ := okWide_slice ht hv
  obtain ⟨fuel, hf⟩ := h
  rcases open_ints ht he hc hf with ⟨hcs, _⟩ | ⟨a, l, c, zs, hcs, _, hl, hm, hz, _, hcell, hwz⟩
  · simp [Value.cells] at hcs
    obtain ⟨rfl, rfl, rfl⟩ := hcs
    exact ⟨none, 0, 0, [], rfl, by simp [maxLen], Rd.nil_, fun x hx => by cases hx⟩
  · simp [Value.cells] at hcs
    obtain ⟨rfl, rfl, rfl⟩ := hcs
    have hx : ∃ xs, Rd byteC 1 w w.heap.size (some a) len xs ∧ ∀ x ∈ xs, 0 ≤ x ∧ x ≤ 255 := by
      refine rd_of_cells_q (by omega) (fun _ => rfl) (fun i hi => ?_)
      have hlt : i < zs.length := by rw [hz]; split <;> omega
      have e := hcell i hlt
      have hw := hwz (zs.getD i 0) (by rw [List.getD_eq_getElem?_getD, List.getElem?_eq_getElem hlt]; exact List.getElem_mem hlt)
      generalize zs.getD i 0 = z at *
      refine ⟨z, ?_, fun j u hu => ?_⟩
      · simp [Lit.wf, IntKind.min, IntKind.max, IntKind.signed, IntKind.bits] at hw; omega
      · have hj : j = 0 := by
          have := (List.getElem?_eq_some_iff.1 hu).1
          simp [byteC] at this
          exact this
        subst hj
        simp only [Nat.mul_one, Nat.add_zero]
        rw [e]
        exact hu
    obtain ⟨xs, hx, hq⟩ := hx
    exact ⟨some a, len, cap, xs, rfl, by omega, hx, hq⟩
end

section
variable {H : Type} {enc : TypeId × Value → H} {w : World} {base : Nat} {spare : Nat → Bool} {held : Bool}
end
end Go.Proofs.Ytchkcleenmoajaa
