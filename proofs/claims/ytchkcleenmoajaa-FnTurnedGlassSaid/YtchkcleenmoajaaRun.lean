
/- run, RunTumble: the program's. -/
import Derived.Test.YtchkcleenmoajaaTick
namespace Go.Proofs.Ytchkcleenmoajaa
open Go.RowKit
attribute [local go_sem] run_store_float run_store_complex

def addF (c : Int) (f : Bool) : Int := if f then c + 1 else c
/-- k ticks: the beads, and how often each was folded -/
def runUp (mir : Int) (gr : Pt) (loss : Nat) (bs : List Bd) : Nat → Option (List Bd × List Int)
  | 0 => some (bs, List.replicate bs.length 0)
  | k + 1 => match runUp mir gr loss bs k with
    | some (b, c) => if allGo gr b then some (goL mir gr loss b, List.zipWith addF c (goF mir gr loss b)) else none
    | none => none
theorem runUp_yes {mir : Int} {gr : Pt} {loss : Nat} {bs b : List Bd} {c : List Int} {k : Nat} (h : runUp mir gr loss bs k = some (b, c)) (hg : allGo gr b = true) : runUp mir gr loss bs (k + 1) = some (goL mir gr loss b, List.zipWith addF c (goF mir gr loss b)) := by
  unfold runUp; rw [h]; simp [hg]
theorem runUp_no {mir : Int} {gr : Pt} {loss : Nat} {bs b : List Bd} {c : List Int} {k : Nat} (h : runUp mir gr loss bs k = some (b, c)) (hg : allGo gr b = false) : runUp mir gr loss bs (k + 1) = none := by
  unfold runUp; rw [h]; simp [hg]
theorem runUp_none {mir : Int} {gr : Pt} {loss : Nat} {bs : List Bd} {k : Nat} (h : runUp mir gr loss bs k = none) : ∀ j, runUp mir gr loss bs (k + j) = none
  | 0 => h
  | j + 1 => by
    have ih := runUp_none h j
    show runUp mir gr loss bs (k + j + 1) = none
    unfold runUp; rw [ih]
theorem runUp_len {mir : Int} {gr : Pt} {loss : Nat} {bs : List Bd} : ∀ {k : Nat} {b : List Bd} {c : List Int}, runUp mir gr loss bs k = some (b, c) → b.length = bs.length ∧ c.length = bs.length
  | 0, b, c, h => by
    unfold runUp at h
    injection h with h
    injection h with h1 h2
    subst h1 h2
    simp
  | k + 1, b, c, h => by
    cases hk : runUp mir gr loss bs k with
    | none => unfold runUp at h; rw [hk] at h; cases h
    | some r =>
      obtain ⟨b', c'⟩ := r
      have ih := runUp_len hk
      unfold runUp at h
      rw [hk] at h
      simp only at h
      split at h
      · injection h with h
        injection h with h1 h2
        subst h1 h2
        simp [goL, goF, ih.1, ih.2]
      · cases h
def runOk (mir : Int) (gr : Pt) (loss : Nat) (bs : List Bd) (N : Int) : Option (List Bd × List Int) := if tumB mir gr loss bs && inB N 0 64 then runUp mir gr loss bs N.toNat else none
theorem infoIntR : (Try.prog.info? 3).map (fun i => (i.zero, i.size, i.bytes)) = some (some (.int .i64 0), 1, 8) := by kernel_rfl
theorem flat_zeros (n : Nat) : (madeCells #[.int .i64 0] n).toList = flat intC (List.replicate n 0) := by
  apply List.ext_getElem?
  intro j
  by_cases hj : j < n
  · have h1 := flat_get intC_len (List.replicate n 0) j 0 (by simp [hj]) 0 (.int .i64 0) rfl
    rw [Nat.mul_one, Nat.add_zero] at h1
    rw [h1]
    have hr : (Array.range n)[j]? = some j := by simp [hj]
    rw [madeCells, Array.getElem?_toList, Array.getElem?_map, hr]
    simp [Nat.mod_one]
  · rw [List.getElem?_eq_none (by simp [madeCells]; omega), List.getElem?_eq_none (by rw [flat_length intC_len, List.length_replicate]; omega)]
theorem own_zeros {base n : Nat} (W : World) (hb : base ≤ W.heap.size) (hn : n ≤ maxLen) :
    (W.alloc (.cells (madeCells #[.int .i64 0] n) 3)).ownsRow base 3 1 (.slice (some ⟨W.heap.size, 0, none⟩) n n) n (flat intC (List.replicate n 0)) := by
  rw [← flat_zeros]
  exact World.ownsRow_lit W _ n hb hn (by simp [madeCells])

theorem flat_setI {ys : List Int} : ∀ {i : Nat}, i < ys.length → ∀ (x : Int), flat intC (ys.set i x) = (flat intC ys).set i (.int .i64 x) := by
  induction ys with
  | nil => intro i h; simp at h
  | cons y ys ih =>
    intro i h x
    cases i with
    | zero => rfl
    | succ i =>
      rw [List.set_cons_succ, flat_cons, flat_cons, ih (by simpa using h)]
      rfl
theorem mixL_at {α : Type} {ys xs : List α} {k : Nat} (h : ys.length = xs.length) (hk : k < xs.length) : (mixL ys xs k)[k]? = xs[k]? := by
  unfold mixL
  have ht : (ys.take k).length = k := by rw [List.length_take]; omega
  rw [List.getElem?_append_right (by omega), ht, Nat.sub_self, List.getElem?_drop, Nat.add_zero]
theorem runUp_bd {mir : Int} {gr : Pt} {loss : Nat} {bs : List Bd} : ∀ {k : Nat} {b : List Bd} {c : List Int}, runUp mir gr loss bs k = some (b, c) → ∀ (i : Nat) x, c[i]? = some x → 0 ≤ x ∧ x ≤ (k : Int)
  | 0, b, c, h, i, x, hx => by
    unfold runUp at h
    injection h with h
    injection h with h1 h2
    subst h1 h2
    rw [List.getElem?_replicate] at hx
    split at hx
    · injection hx with hx; subst hx; simp
    · cases hx
  | k + 1, b, c, h, i, x, hx => by
    cases hk : runUp mir gr loss bs k with
    | none => unfold runUp at h; rw [hk] at h; cases h
    | some r =>
      obtain ⟨b', c'⟩ := r
      have ih := runUp_bd hk
      unfold runUp at h
      rw [hk] at h
      simp only at h
      split at h
      · injection h with h
        injection h with h1 h2
        subst h1 h2
        rw [List.getElem?_zipWith] at hx
        cases h3 : c'[i]? with
        | none => rw [h3] at hx; cases hx
        | some y =>
          cases h4 : (goF mir gr loss b')[i]? with
          | none => rw [h3, h4] at hx; cases hx
          | some f =>
            rw [h3, h4] at hx
            simp at hx
            have := ih i y h3
            subst hx
            unfold addF
            split <;> omega
      · cases h
theorem Rd.bo {w : World} {B : Nat} {A : Option Addr} {n k : Nat} {xs : List Bool} (h : Rd boC 1 w B A n xs) (hk : k < n) :
    ∃ b off x, A = some ⟨b, off, none⟩ ∧ b < B ∧ xs[k]? = some x ∧ w.cell? ⟨b, off + k, none⟩ = some (.bool x) := by
  obtain ⟨b, off, x, e, hb, hx, hc⟩ := h.at_ hk
  have := hc 0 _ rfl
  rw [Nat.mul_one, Nat.add_zero] at this
  exact ⟨b, off, x, e, hb, hx, this⟩

end Go.Proofs.Ytchkcleenmoajaa
