
/- Memory: a slice that reads as a list, whatever its elements' cells. No program. -/
import Derived.Test.YtchkcleenmoajaaGeo
import Derived.Deep.AppendLies
namespace Go.Proofs.Ytchkcleenmoajaa
open Go.RowKit

/-- the slice at A with n elements reads as xs (each element 'sz' cells, 'enc'), below block B -/
def Rd {α : Type} (enc : α → List Value) (sz : Nat) (w : World) (B : Nat) (A : Option Addr) (n : Nat) (xs : List α) : Prop :=
  xs.length = n ∧ (0 < n → ∃ b off, A = some ⟨b, off, none⟩ ∧ b < B ∧ ∀ k x, xs[k]? = some x → ∀ j u, (enc x)[j]? = some u → w.cell? ⟨b, off + k * sz + j, none⟩ = some u)

section
variable {α : Type} {enc : α → List Value} {sz : Nat} {w w' : World} {B B' : Nat} {A : Option Addr} {n : Nat} {xs : List α}
theorem Rd.nil_ : Rd enc sz w B A 0 [] := ⟨rfl, fun h => absurd h (by omega)⟩
theorem Rd.at_ {k : Nat} (h : Rd enc sz w B A n xs) (hk : k < n) : ∃ b off x, A = some ⟨b, off, none⟩ ∧ b < B ∧ xs[k]? = some x ∧ ∀ j u, (enc x)[j]? = some u → w.cell? ⟨b, off + k * sz + j, none⟩ = some u := by
  obtain ⟨b, off, e, hb, hc⟩ := h.2 (by omega)
  have hl : k < xs.length := by have := h.1; omega
  exact ⟨b, off, xs[k], e, hb, List.getElem?_eq_getElem hl, hc k _ (List.getElem?_eq_getElem hl)⟩
theorem Rd.keep (h : Rd enc sz w B A n xs) (hk : ∀ p : Addr, p.block < B → w'.cell? p = w.cell? p) : Rd enc sz w' B A n xs :=
  ⟨h.1, fun hn => by
    obtain ⟨b, off, e, hb, hc⟩ := h.2 hn
    exact ⟨b, off, e, hb, fun k x hx j u hu => (hk ⟨b, off + k * sz + j, none⟩ hb).trans (hc k x hx j u hu)⟩⟩
theorem Rd.more (h : Rd enc sz w B A n xs) (hB : B ≤ B') : Rd enc sz w B' A n xs :=
  ⟨h.1, fun hn => by
    obtain ⟨b, off, e, hb, hc⟩ := h.2 hn
    exact ⟨b, off, e, by omega, hc⟩⟩
theorem Rd.below (h : Rd enc sz w B A n xs) (hb : Below B w w') : Rd enc sz w' B A n xs := h.keep fun _ hp => hb.cell hp
theorem Rd.drewN (h : Rd enc sz w B A n xs) (k : Nat) : Rd enc sz (w.drewN k) B A n xs := h
theorem Rd.drew (h : Rd enc sz w B A n xs) : Rd enc sz w.drew B A n xs := h
/-- the current world's own form: carried over a callee that only makes memory -/
theorem Rd.step (h : Rd enc sz w w.heap.size A n xs) (hb : Below w.heap.size w w') : Rd enc sz w' w'.heap.size A n xs := (h.below hb).more hb.size
end

/-- the current world's own form, whatever the world it was said of -/
theorem Rd.at_world {α : Type} {enc : α → List Value} {sz : Nat} {w w' : World} {A : Option Addr} {n : Nat} {xs : List α} (h : Rd enc sz w w.heap.size A n xs) (hb : Below w.heap.size w w') : Rd enc sz w' w'.heap.size A n xs := h.step hb

/-- the eight symmetries by number -/
def sym8 (k : Nat) : Int × Bool := (((k % 4 : Nat) : Int), decide (4 ≤ k))

/-! ### cells of values -/
abbrev Col := Nat × Nat × Nat
def colC (c : Col) : List Value := [.float .f32 c.1, .float .f32 c.2.1, .float .f32 c.2.2]
def symC (s : Int × Bool) : List Value := [.int .i64 s.1, .bool s.2]
def intC (n : Int) : List Value := [.int .i64 n]
def strC (s : ByteArray) : List Value := [.string s]
def cxC (z : Nat × Nat) : List Value := [.complex .f32 z.1 z.2]
def byteC (n : Int) : List Value := [.int .u8 n]

/-! ### rows of the call's own -/
def flat {α : Type} (enc : α → List Value) (xs : List α) : List Value := xs.flatMap enc
theorem flat_nil {α : Type} (enc : α → List Value) : flat enc [] = [] := rfl
theorem flat_cons {α : Type} (enc : α → List Value) (x : α) (xs : List α) : flat enc (x :: xs) = enc x ++ flat enc xs := rfl
theorem flat_append {α : Type} (enc : α → List Value) (xs ys : List α) : flat enc (xs ++ ys) = flat enc xs ++ flat enc ys := by simp [flat]
theorem flat_length {α : Type} {enc : α → List Value} {sz : Nat} (he : ∀ x, (enc x).length = sz) (xs : List α) : (flat enc xs).length = xs.length * sz := by
  induction xs with
  | nil => simp [flat]
  | cons x xs ih => rw [flat_cons, List.length_append, he, ih, List.length_cons, Nat.add_mul]; omega
theorem flat_get {α : Type} {enc : α → List Value} {sz : Nat} (he : ∀ x, (enc x).length = sz) (xs : List α) (k : Nat) (x : α) (hx : xs[k]? = some x) (j : Nat) (u : Value) (hu : (enc x)[j]? = some u) :
    (flat enc xs)[k * sz + j]? = some u := by
  have hj : j < sz := by
    have h := (List.getElem?_eq_some_iff.1 hu).1
    rw [he] at h; exact h
  induction xs generalizing k with
  | nil => simp at hx
  | cons y ys ih =>
    rw [flat_cons]
    cases k with
    | zero =>
      simp at hx
      subst hx
      rw [Nat.zero_mul, Nat.zero_add, List.getElem?_append_left (by rw [he]; exact hj)]
      exact hu
    | succ k =>
      rw [List.getElem?_append_right (by rw [he, Nat.add_mul]; omega), he]
      rw [show (k + 1) * sz + j - sz = k * sz + j from by rw [Nat.add_mul]; omega]
      exact ih k (by simpa using hx)
theorem colC_len (c : Col) : (colC c).length = 3 := rfl
theorem symC_len (s : Int × Bool) : (symC s).length = 2 := rfl
theorem intC_len (n : Int) : (intC n).length = 1 := rfl
theorem strC_len (s : ByteArray) : (strC s).length = 1 := rfl
theorem cxC_len (z : Nat × Nat) : (cxC z).length = 1 := rfl

/-- an owned row reads -/
theorem Rd.of_own {α : Type} {enc : α → List Value} {sz : Nat} (he : ∀ x, (enc x).length = sz) {w : World} {base : Nat} {E : TypeId} {A : Option Addr} {n c : Nat} {xs : List α}
    (hl : xs.length = n) (h : w.ownsRow base E sz (.slice A n c) n (flat enc xs)) : Rd enc sz w w.heap.size A n xs := by
  refine ⟨hl, fun hn => ?_⟩
  obtain ⟨g, cap, hv, hlt⟩ : ∃ g cap, (Value.slice A n c) = .slice (some ⟨g, 0, none⟩) n cap ∧ g < w.heap.size := by
    rcases h.2 with ⟨_, h0⟩ | ⟨g, cap, cur, hv, _, hg, _⟩
    · omega
    · exact ⟨g, cap, hv, by
        rcases Nat.lt_or_ge g w.heap.size with hlt | hge
        · exact hlt
        · rw [Array.getElem?_eq_none hge] at hg; cases hg⟩
  injection hv with hA
  subst hA
  refine ⟨g, 0, rfl, hlt, fun k x hx j u hu => ?_⟩
  have hc := h.cells (g := g) rfl _ _ (flat_get he xs k x hx j u hu)
  unfold Addr.add at hc
  split at hc
  · rename_i h0
    rw [show 0 + k * sz + j = 0 from by omega]
    exact hc
  · rw [show 0 + k * sz + j = 0 + (k * sz + j) from by omega]
    exact hc

theorem grown_of_below {a w : World} (h : Below a.heap.size a w) (row : Option Nat) : a.grownBy w row := ⟨h.os, h.tape, h.output, h.size, fun i hi _ => h.block i hi⟩
theorem owns_below {w w' : World} {base : Nat} {E : TypeId} {sz : Nat} {v : Value} {n : Nat} {xs : List Value} (h : w.ownsRow base E sz v n xs) (hb : Below w.heap.size w w') : w'.ownsRow base E sz v n xs :=
  h.kept (grown_of_below hb none) (by cases hv : v.ownBlock <;> simp)
theorem owns_mono {w : World} {base base' : Nat} {E : TypeId} {sz : Nat} {v : Value} {n : Nat} {xs : List Value} (h : w.ownsRow base' E sz v n xs) (hb : base ≤ base') : w.ownsRow base E sz v n xs := by
  refine ⟨h.1, ?_⟩
  rcases h.2 with h0 | ⟨g, cap, cur, h1, h2, h3⟩
  · exact .inl h0
  · exact .inr ⟨g, cap, cur, h1, Nat.le_trans hb h2, h3⟩
theorem owns_slice {w : World} {base : Nat} {E : TypeId} {sz : Nat} {v : Value} {n : Nat} {xs : List Value} (h : w.ownsRow base E sz v n xs) : ∃ A c, v = .slice A n c := by
  rcases h.2 with ⟨rfl, rfl⟩ | ⟨g, cap, cur, rfl, _⟩
  · exact ⟨_, _, rfl⟩
  · exact ⟨_, _, rfl⟩
/-- what an append leaves below its base -/
theorem below_append {w0 wr w1 : World} {o : Obj} {E : TypeId} {sz : Nat} {v : Value} {n : Nat} {xs : List Value} (hw : Below w0.heap.size w0 wr) (hown : wr.ownsRow w0.heap.size E sz v n xs)
    (hg : (wr.alloc o).grownBy w1 v.ownBlock) : Below w0.heap.size w0 w1 :=
  (hw.alloc hw.size o).grown hg (Nat.le_trans hw.size (by simp)) (fun k hk => (hown.lt k hk).1)
/-- a cell of an owned row -/
theorem owns_cell {w : World} {base : Nat} {E : TypeId} {sz : Nat} {g n c : Nat} {ys : List Value} (h : w.ownsRow base E sz (.slice (some ⟨g, 0, none⟩) n c) n ys) (j : Nat) (hj : j < n * sz) :
    ∃ v, w.cell? ⟨g, j, none⟩ = some v := by
  rw [h.cellAt j hj]
  exact ⟨_, List.getElem?_eq_getElem (by rw [h.1]; exact hj)⟩
/-- the first k elements of ys are already those of zs -/
def Pre (k sz : Nat) (ys zs : List Value) : Prop := ys.length = zs.length ∧ ∀ j, j < k * sz → ys[j]? = zs[j]?
theorem Pre.zero {sz : Nat} {ys zs : List Value} (h : ys.length = zs.length) : Pre 0 sz ys zs := ⟨h, fun j hj => by simp at hj⟩
theorem Pre.done {k sz : Nat} {ys zs : List Value} (h : Pre k sz ys zs) (hl : zs.length ≤ k * sz) : ys = zs := by
  apply List.ext_getElem?
  intro j
  by_cases hj : j < k * sz
  · exact h.2 j hj
  · rw [List.getElem?_eq_none (by rw [h.1]; omega), List.getElem?_eq_none (by omega)]
theorem Pre.step1 {k : Nat} {ys zs : List Value} {u0 : Value} (h : Pre k 1 ys zs) (h0 : zs[k]? = some u0) : Pre (k + 1) 1 (ys.set k u0) zs := by
  refine ⟨by simpa using h.1, fun j hj => ?_⟩
  rw [List.getElem?_set]
  have hlt := (List.getElem?_eq_some_iff.1 h0).1
  have hl := h.1
  by_cases e : k = j
  · subst e; rw [if_pos rfl, if_pos (by omega), h0]
  · rw [if_neg e]; exact h.2 j (by omega)
theorem Pre.step2 {k : Nat} {ys zs : List Value} {u0 u1 : Value} (h : Pre k 2 ys zs) (h0 : zs[k * 2]? = some u0) (h1 : zs[k * 2 + 1]? = some u1) :
    Pre (k + 1) 2 ((ys.set (k * 2) u0).set (k * 2 + 1) u1) zs := by
  refine ⟨by simpa using h.1, fun j hj => ?_⟩
  have b1 := (List.getElem?_eq_some_iff.1 h1).1
  have hl := h.1
  rw [List.getElem?_set, List.getElem?_set, List.length_set]
  by_cases e1 : k * 2 + 1 = j
  · subst e1; rw [if_pos rfl, if_pos (by omega), h1]
  · rw [if_neg e1]
    by_cases e0 : k * 2 = j
    · subst e0; rw [if_pos rfl, if_pos (by omega), h0]
    · rw [if_neg e0]; exact h.2 j (by omega)
theorem Pre.step3 {k : Nat} {ys zs : List Value} {u0 u1 u2 : Value} (h : Pre k 3 ys zs) (h0 : zs[k * 3]? = some u0) (h1 : zs[k * 3 + 1]? = some u1) (h2 : zs[k * 3 + 2]? = some u2) :
    Pre (k + 1) 3 (((ys.set (k * 3) u0).set (k * 3 + 1) u1).set (k * 3 + 2) u2) zs := by
  refine ⟨by simpa using h.1, fun j hj => ?_⟩
  have b2 := (List.getElem?_eq_some_iff.1 h2).1
  have hl := h.1
  rw [List.getElem?_set, List.getElem?_set, List.getElem?_set, List.length_set, List.length_set]
  by_cases e2 : k * 3 + 2 = j
  · subst e2; rw [if_pos rfl, if_pos (by omega), h2]
  · rw [if_neg e2]
    by_cases e1 : k * 3 + 1 = j
    · subst e1; rw [if_pos rfl, if_pos (by omega), h1]
    · rw [if_neg e1]
      by_cases e0 : k * 3 = j
      · subst e0; rw [if_pos rfl, if_pos (by omega), h0]
      · rw [if_neg e0]; exact h.2 j (by omega)

theorem Rd.col {w : World} {B : Nat} {A : Option Addr} {n k : Nat} {xs : List Col} (h : Rd colC 3 w B A n xs) (hk : k < n) :
    ∃ b off r g l, A = some ⟨b, off, none⟩ ∧ b < B ∧ xs[k]? = some (r, g, l) ∧ w.cell? ⟨b, off + k * 3, none⟩ = some (.float .f32 r) ∧ w.cell? ⟨b, off + k * 3 + 1, none⟩ = some (.float .f32 g) ∧ w.cell? ⟨b, off + k * 3 + 2, none⟩ = some (.float .f32 l) := by
  obtain ⟨b, off, ⟨r, g, l⟩, e, hb, hx, hc⟩ := h.at_ hk
  exact ⟨b, off, r, g, l, e, hb, hx, hc 0 _ rfl, hc 1 _ rfl, hc 2 _ rfl⟩
end Go.Proofs.Ytchkcleenmoajaa
