/- Col · Cell · CellTo · CellsP -/
import Derived.Test.YtchkcleenmoajaaMem
import Derived.Test.YtchkcleenmoajaaSym
import Derived.Test.YtchkcleenmoajaaGeoI
import Derived.Laws.FloatArith
import Derived.Deep.RegionHeld3

/- IsColour, both versions. -/
namespace Go.Proofs.Ytchkcleenmoajaa
open Go.RowKit

def partB (x : Nat) : Bool := geB x 0 && leB x 1065353216
def colB (c : Col) : Bool := partB c.1 && (partB c.2.1 && partB c.2.2)

theorem part_fin {x : Nat} (h : partB x = true) : finB x = true := by
  rcases three x with h1 | h1 | h1
  · exact h1
  · exfalso
    have e := read_inf h1
    have r1 : Ieee.single.read 1065353216 = .number false 8388608 (-23) := by decide
    simp only [partB, geB, leB, ordB, Ieee.Format.order, e, r1, read_zero, Ieee.Datum.order] at h
    cases hs : (x / 2147483648 % 2 == 1) <;> rw [hs] at h <;> revert h <;> decide
  · exfalso
    unfold partB geB leB at h
    rw [ord_nan_left h1] at h
    simp at h

theorem isPart_any (x : Nat) (w : World) :
    Calls Try.prog 50 #[.float .f32 x] w fun e w' => e = .returned (.bool (partB x)) ∧ w = w' := by
  have r : partB x = (geB x 0 && leB x 1065353216) := rfl
  cases h1 : geB x 0
  all_goals
    rw [h1] at r
    have e1 : (FloatKind.f32.format.order x 0 == some .gt || FloatKind.f32.format.order x 0 == some .eq) = geB x 0 := rfl
    rw [h1] at e1
    have R := Lib.hid r
    clear r h1
    go_enter Try.func50, Try.ntmps50
    go_wp2
    go_ret
    exact ⟨by rw [R.out]; simp [leB, ordB, FloatKind.format], rfl⟩

set_option maxHeartbeats 1000000 in
theorem isColour_any (r g b : Nat) (w : World) :
    Calls Try.prog 31 #[.agg #[.float .f32 r, .float .f32 g, .float .f32 b]] w fun e w' => e = .returned (.bool (colB (r, g, b))) ∧ Below w.heap.size w w' := by
  have q : colB (r, g, b) = (partB r && (partB g && partB b)) := rfl
  cases h1 : partB r <;> cases h2 : partB g
  all_goals
    rw [h1, h2] at q
    have R := Lib.hid q
    clear q
    go_enter Try.func31, Try.ntmps31
    go_wp2_with (go_at_call 50; refine (isPart_any _ _).mono ?_; rintro e w' ⟨rfl, rfl⟩; try simp only [h1, h2])
    go_ret
    exact ⟨by rw [R.out]; simp, by (repeat (first | with_reducible assumption | exact Below.refl _ _ | (refine Below.setCell ?_ (by first | exact Nat.le_refl _ | (simp; done) | omega | (simp; omega)) _) | (refine below_drewN ?_ _) | (refine Below.drew ?_) | (refine Below.alloc ?_ (by first | exact Nat.le_refl _ | (simp; done) | omega | (simp; omega)) _) | (refine then_ ?_ (by with_reducible assumption)) | assumption | (refine then_ ?_ (by assumption))))⟩

end Go.Proofs.Ytchkcleenmoajaa

/- The walks of BackSym, PlaceOf, CellTo, both versions. -/
namespace Go.Proofs.Ytchkcleenmoajaa
open Go.RowKit

def backP (t : Int) (f : Bool) : Int × Bool := if inB t 0 3 then (if f then t else (4 - t) % 4, f) else (0, false)

/-- PlaceOf's two results -/
def placeQ (size cell : Int) (b : Bool) : Value := .tuple #[cxV (if b then flP (ptI size cell) else (0, 0)), .bool b]
def placeV (size cell : Int) : Value := placeQ size cell (okCell size cell)

theorem placeOf_any (size cell : Int) (w : World) :
    Calls Try.prog 32 #[.int .i64 size, .int .i64 cell] w fun e w' => e = .returned (placeV size cell) ∧ Dr w w' := by
  have r : okCell size cell = (inB size 1 8 && inB cell 0 (size * size - 1)) := rfl
  cases ha : inB size 1 8
  · rw [ha] at r
    have R := Lib.hid r
    clear r
    go_enter Try.func32, Try.ntmps32
    go_wp2_with (go_at_call 29; refine (within_any _ _ _ _).mono ?_; rintro e w' ⟨rfl, rfl⟩; simp only [ha])
    go_ret2
    exact ⟨by unfold placeV; rw [R.out]; rfl, Dr.refl _⟩
  · obtain ⟨b1, b2⟩ := inB_true ha
    have b3 : size * size ≤ 8 * 8 := Int.mul_le_mul b2 b2 (by omega) (by omega)
    have b4 : 1 * 1 ≤ size * size := Int.mul_le_mul b1 b1 (by omega) (by omega)
    cases hb : inB cell 0 (size * size - 1)
    · rw [ha, hb] at r
      have R := Lib.hid r
      clear r
      go_enter Try.func32, Try.ntmps32
      go_wp2_with (go_at_call 29; refine (within_any _ _ _ _).mono ?_; rintro e w' ⟨rfl, rfl⟩; first | simp only [ha] | simp only [hb])
      go_ret2
      exact ⟨by unfold placeV; rw [R.out]; rfl, Dr.refl _⟩
    · rw [ha, hb] at r
      have hk : okCell size cell = true := r
      have R := Lib.hid hk
      clear r
      obtain ⟨h1, h2, h3, h4, h5, h6⟩ := okCell_bd hk
      obtain ⟨m1, m2, m3, m4⟩ := mod_bd h1 h3
      have H := Lib.hid h4
      clear h4 hk
      go_enter Try.func32, Try.ntmps32
      go_wp2_with (go_at_call 29; refine (within_any _ _ _ _).mono ?_; rintro e w' ⟨rfl, rfl⟩; first | simp only [ha] | simp only [hb])
      go_quiet (fail)
      go_wp2
      go_ret2
      exact ⟨by unfold placeV; rw [R.out]; rfl, Dr.drewN _ _⟩
end Go.Proofs.Ytchkcleenmoajaa

/- The walks of CellTo, both versions. -/
namespace Go.Proofs.Ytchkcleenmoajaa
open Go.RowKit

theorem toCell_bd {size : Int} {q : Int × Int} (h1 : 1 ≤ size) (h2 : size ≤ 8) (h : Sm (size - 1) q) : 0 ≤ (size - 1 - q.2) / 2 ∧ (size - 1 - q.2) / 2 ≤ 7 ∧ 0 ≤ (q.1 + size - 1) / 2 ∧ (q.1 + size - 1) / 2 ≤ 7 ∧
    0 ≤ ((size - 1 - q.2) / 2) * size ∧ ((size - 1 - q.2) / 2) * size ≤ 7 * 8 := by
  obtain ⟨a, b, c, d⟩ := h
  refine ⟨by omega, by omega, by omega, by omega, Int.mul_nonneg (by omega) (by omega), Int.mul_le_mul (by omega) h2 (by omega) (by omega)⟩

/-- a boxed symmetry stays readable -/
theorem box2_drewN {w W : World} {g : Nat} {a b : Value} (h : W.cell? ⟨g, 0, none⟩ = some a ∧ W.cell? ⟨g, 1, none⟩ = some b ∧ Below w.heap.size w W) (n : Nat) :
    (W.drewN n).cell? ⟨g, 0, none⟩ = some a ∧ (W.drewN n).cell? ⟨g, 1, none⟩ = some b ∧ Below w.heap.size w (W.drewN n) := ⟨h.1, h.2.1, below_drewN h.2.2 n⟩
theorem box2_below {w W W' : World} {g : Nat} {a b : Value} (h : W.cell? ⟨g, 0, none⟩ = some a ∧ W.cell? ⟨g, 1, none⟩ = some b ∧ Below w.heap.size w W) (k : Below W.heap.size W W') :
    W'.cell? ⟨g, 0, none⟩ = some a ∧ W'.cell? ⟨g, 1, none⟩ = some b ∧ Below w.heap.size w W' := by
  obtain ⟨h1, h2, h3⟩ := h
  have hg := World.block_lt_of_cell? W _ h1
  exact ⟨by rw [k.cell hg]; exact h1, by rw [k.cell (p := ⟨g, 1, none⟩) hg]; exact h2, then_ h3 k⟩

def cellV (size cell t : Int) (f : Bool) : Int := if okCell size cell && inB t 0 3 then cellI size cell t f else -1

theorem placeOf_ok (size cell : Int) (w : World) (h : okCell size cell = true) :
    Calls Try.prog 32 #[.int .i64 size, .int .i64 cell] w fun e w' => e = .returned (.tuple #[.complex .f32 (fl (ptI size cell).1) (fl (ptI size cell).2), .bool true]) ∧ Dr w w' :=
  (placeOf_any size cell w).mono fun e w' ⟨he, hd⟩ => ⟨by rw [he]; unfold placeV; rw [h]; rfl, hd⟩
theorem placeOf_no (size cell : Int) (w : World) (h : okCell size cell = false) :
    Calls Try.prog 32 #[.int .i64 size, .int .i64 cell] w fun e w' => e = .returned (.tuple #[.complex .f32 0 0, .bool false]) ∧ Dr w w' :=
  (placeOf_any size cell w).mono fun e w' ⟨he, hd⟩ => ⟨by rw [he]; unfold placeV; rw [h]; rfl, hd⟩

set_option maxRecDepth 10000 in
set_option maxHeartbeats 1000000 in
theorem cellTo_any (size cell t : Int) (f : Bool) (w : World) :
    Calls Try.prog 37 #[.int .i64 size, .int .i64 cell, .agg #[.int .i64 t, .bool f]] w fun e w' => e = .returned (.int .i64 (cellV size cell t f)) ∧ Below w.heap.size w w' := by
  have r : cellV size cell t f = if okCell size cell && inB t 0 3 then cellI size cell t f else -1 := rfl
  cases hk : okCell size cell
  · rw [hk] at r
    have R := Lib.hid r
    have K := Lib.hid hk
    clear r hk
    go_enter Try.func37, Try.ntmps37
    go_wp2_with (go_at_call 32; refine (placeOf_no _ _ _ K.out).mono ?_; rintro e w' ⟨rfl, n, rfl⟩)
    go_ret
    exact ⟨by rw [R.out]; rfl, by (repeat (first | with_reducible assumption | exact Below.refl _ _ | (refine Below.setCell ?_ (by first | exact Nat.le_refl _ | (simp; done) | omega | (simp; omega)) _) | (refine below_drewN ?_ _) | (refine Below.drew ?_) | (refine Below.alloc ?_ (by first | exact Nat.le_refl _ | (simp; done) | omega | (simp; omega)) _) | (refine then_ ?_ (by with_reducible assumption)) | assumption | (refine then_ ?_ (by assumption))))⟩
  · cases ht : inB t 0 3
    · rw [hk, ht] at r
      have R := Lib.hid r
      have K := Lib.hid hk
      clear r hk
      go_enter Try.func37, Try.ntmps37
      go_wp2_with (first
        | (go_at_call 32; refine (placeOf_ok _ _ _ K.out).mono ?_; rintro e w' ⟨rfl, n, rfl⟩)
        | (go_at_call 24; refine (isSym_any _ _ _).mono ?_; rintro e w1 ⟨rfl, hb1⟩; simp only [ht]; obtain ⟨hc1, hf1⟩ := bcell hb1))
      go_ret
      exact ⟨by rw [R.out]; rfl, by (repeat (first | with_reducible assumption | exact Below.refl _ _ | (refine Below.setCell ?_ (by first | exact Nat.le_refl _ | (simp; done) | omega | (simp; omega)) _) | (refine below_drewN ?_ _) | (refine Below.drew ?_) | (refine Below.alloc ?_ (by first | exact Nat.le_refl _ | (simp; done) | omega | (simp; omega)) _) | (refine then_ ?_ (by with_reducible assumption)) | assumption | (refine then_ ?_ (by assumption))))⟩
    · rw [hk, ht] at r
      have hp := point_small ((ptI_sm hk).mono (c := 8) (by have := okCell_bd hk; omega))
      have hr := actI_small ((ptI_sm hk).mono (c := 8) (by have := okCell_bd hk; omega)) t f
      have hs := aI_sm (ptI_sm hk) t f
      obtain ⟨h1, h2, h3, h4, h5, h6⟩ := okCell_bd hk
      obtain ⟨b1, b2, b3, b4, b5, b6⟩ := toCell_bd h1 h2 hs
      have hq : cellV size cell t f = toCell size (aI t f (ptI size cell)) := r
      clear r
      generalize aI t f (ptI size cell) = q at *
      obtain ⟨x, y⟩ := q
      have R := Lib.hid (show cellV size cell t f = (size - 1 - y) / 2 * size + (x + size - 1) / 2 from hq)
      have A := Lib.hid hr
      have K := Lib.hid hk
      have H := Lib.hid h4
      obtain ⟨a, b, c, d⟩ := hs
      dsimp only at a b c d b1 b2 b3 b4 b5 b6
      clear hq hr hk h4 h6
      have k1 := fun wx => run_convert_float_int (P := Try.prog) wx 25 3 .f32 .i64 (fl x) x (by kernel_rfl) Try.underlying3 (small_at x (by omega) (by omega)).2.2.2.2
      have k2 := fun wx => run_convert_float_int (P := Try.prog) wx 25 3 .f32 .i64 (fl y) y (by kernel_rfl) Try.underlying3 (small_at y (by omega) (by omega)).2.2.2.2
      go_enter Try.func37, Try.ntmps37
      go_wp2_with (first
        | (go_at_call 32; refine (placeOf_ok _ _ _ K.out).mono ?_; rintro e w' ⟨rfl, n, rfl⟩)
        | (go_at_call 24; refine (isSym_any _ _ _).mono ?_; rintro e w1 ⟨rfl, hb1⟩; simp only [ht]; obtain ⟨hc1, hf1⟩ := bcell hb1)
        | (go_at_call 26; refine (actSym_ok _ _ _ _ _ ht hp).mono ?_; rintro e w2 ⟨rfl, hb2⟩; rw [A.out]; simp only [cxV, flP]))
      go_ret
      exact ⟨by rw [R.out]; rfl, by (repeat (first | with_reducible assumption | exact Below.refl _ _ | (refine Below.setCell ?_ (by first | exact Nat.le_refl _ | (simp; done) | omega | (simp; omega)) _) | (refine below_drewN ?_ _) | (refine Below.drew ?_) | (refine Below.alloc ?_ (by first | exact Nat.le_refl _ | (simp; done) | omega | (simp; omega)) _) | (refine then_ ?_ (by with_reducible assumption)) | assumption | (refine then_ ?_ (by assumption))))⟩
end Go.Proofs.Ytchkcleenmoajaa

/- Cells and the symmetries that take them to cells: plain arithmetic. No program. -/
namespace Go.Proofs.Ytchkcleenmoajaa

def cellOk (s k g : Nat) : Bool :=
  let q := cellI (s + 1) k (sym8 g).1 (sym8 g).2
  okCell (s + 1) q && decide (ptI (s + 1) q = aI (sym8 g).1 (sym8 g).2 (ptI (s + 1) k)) && decide (cellI (s + 1) q (backP (sym8 g).1 (sym8 g).2).1 (backP (sym8 g).1 (sym8 g).2).2 = k)
def cellsOk : Bool := (List.range 8).all fun s => (List.range ((s + 1) * (s + 1))).all fun k => (List.range 8).all fun g => cellOk s k g
theorem cellsOk_true : cellsOk = true := by decide +kernel
theorem cells_all (s k g : Nat) (hs : s < 8) (hk : k < (s + 1) * (s + 1)) (hg : g < 8) :
    okCell (s + 1) (cellI (s + 1) k (sym8 g).1 (sym8 g).2) = true ∧ ptI (s + 1) (cellI (s + 1) k (sym8 g).1 (sym8 g).2) = aI (sym8 g).1 (sym8 g).2 (ptI (s + 1) k) ∧
    cellI (s + 1) (cellI (s + 1) k (sym8 g).1 (sym8 g).2) (backP (sym8 g).1 (sym8 g).2).1 (backP (sym8 g).1 (sym8 g).2).2 = k := by
  have h := cellsOk_true
  unfold cellsOk at h
  have h1 := List.all_eq_true.1 h s (List.mem_range.2 hs)
  have h2 := List.all_eq_true.1 h1 k (List.mem_range.2 hk)
  have h3 := List.all_eq_true.1 h2 g (List.mem_range.2 hg)
  simp only [cellOk, Bool.and_eq_true, decide_eq_true_eq] at h3
  exact ⟨h3.1.1, h3.1.2, h3.2⟩

theorem then_all : ∀ g : Nat, g < 8 → ∀ h : Nat, h < 8 → ∀ p : Int × Int,
    aI (sym8 h).1 (sym8 h).2 (aI (sym8 g).1 (sym8 g).2 p) = aI (thenP (sym8 g).1 (sym8 g).2 (sym8 h).1 (sym8 h).2).1 (thenP (sym8 g).1 (sym8 g).2 (sym8 h).1 (sym8 h).2).2 p := by
  intro g hg h hh p
  obtain ⟨x, y⟩ := p
  have e : ∀ g : Nat, g < 8 → g = 0 ∨ g = 1 ∨ g = 2 ∨ g = 3 ∨ g = 4 ∨ g = 5 ∨ g = 6 ∨ g = 7 := by omega
  rcases e g hg with rfl | rfl | rfl | rfl | rfl | rfl | rfl | rfl <;> rcases e h hh with rfl | rfl | rfl | rfl | rfl | rfl | rfl | rfl <;>
    simp [sym8, aI, thenP, thenT, inB, rIN, rI]

theorem sym8_ok : ∀ g : Nat, g < 8 → inB (sym8 g).1 0 3 = true := by decide
theorem back_ok : ∀ g : Nat, g < 8 → inB (backP (sym8 g).1 (sym8 g).2).1 0 3 = true := by decide
theorem then_ok : ∀ g : Nat, g < 8 → ∀ h : Nat, h < 8 → inB (thenP (sym8 g).1 (sym8 g).2 (sym8 h).1 (sym8 h).2).1 0 3 = true := by decide

theorem okCell_of (s k : Nat) (hs : s < 8) (hk : k < (s + 1) * (s + 1)) : okCell (s + 1) k = true := by
  have h1 : ((k : Nat) : Int) < ((s + 1 : Nat) : Int) * ((s + 1 : Nat) : Int) := by
    have h : ((k : Nat) : Int) < (((s + 1) * (s + 1) : Nat) : Int) := Int.ofNat_lt.2 hk
    rwa [Int.natCast_mul] at h
  have e : ((s + 1 : Nat) : Int) = (s : Int) + 1 := by omega
  rw [e] at h1
  simp only [okCell, inB, Bool.and_eq_true, decide_eq_true_eq]
  exact ⟨⟨by omega, by omega⟩, by omega, by omega⟩

theorem cells_round (s k i j : Nat) (hs : s < 8) (hk : k < (s + 1) * (s + 1)) (hi : i < 8) (hj : j < 8) : ∃ T C X Y : Int,
    okCell (s + 1) k = true ∧ cellV (s + 1) k (sym8 i).1 (sym8 i).2 = T ∧ okCell (s + 1) T = true ∧ ptI (s + 1) T = (X, Y) ∧
    actI (sym8 i).1 (sym8 i).2 (fl (ptI (s + 1) k).1) (fl (ptI (s + 1) k).2) = (fl X, fl Y) ∧ pointB (fl (ptI (s + 1) k).1) (fl (ptI (s + 1) k).2) = true ∧
    -8 ≤ X ∧ X ≤ 8 ∧ -8 ≤ Y ∧ Y ≤ 8 ∧ cellV (s + 1) T (sym8 j).1 (sym8 j).2 = C ∧
    cellV (s + 1) k (thenP (sym8 i).1 (sym8 i).2 (sym8 j).1 (sym8 j).2).1 (thenP (sym8 i).1 (sym8 i).2 (sym8 j).1 (sym8 j).2).2 = C ∧
    cellV (s + 1) T (backP (sym8 i).1 (sym8 i).2).1 (backP (sym8 i).1 (sym8 i).2).2 = k := by
  obtain ⟨c1, c2, c3⟩ := cells_all s k i hs hk hi
  have k0 := okCell_of s k hs hk
  have v : ∀ (c t : Int) (f : Bool), okCell (s + 1) c = true → inB t 0 3 = true → cellV (s + 1) c t f = cellI (s + 1) c t f := fun c t f h1 h2 => by unfold cellV; rw [h1, h2]; rfl
  have hsm := (ptI_sm k0).mono (c := 8) (by omega)
  have ha := aI_sm hsm (sym8 i).1 (sym8 i).2
  obtain ⟨a1, a2, a3, a4⟩ := ha
  refine ⟨cellI (s + 1) k (sym8 i).1 (sym8 i).2, cellI (s + 1) (cellI (s + 1) k (sym8 i).1 (sym8 i).2) (sym8 j).1 (sym8 j).2, (aI (sym8 i).1 (sym8 i).2 (ptI (s + 1) k)).1, (aI (sym8 i).1 (sym8 i).2 (ptI (s + 1) k)).2,
    k0, v _ _ _ k0 (sym8_ok i hi), c1, c2, actI_small hsm _ _, point_small hsm, a1, a2, a3, a4, v _ _ _ c1 (sym8_ok j hj), ?_, (v _ _ _ c1 (back_ok i hi)).trans c3⟩
  rw [v _ _ _ k0 (then_ok i hi j hj)]
  unfold cellI
  rw [← then_all i hi j hj]
  congr 2
  exact c2.symm
end Go.Proofs.Ytchkcleenmoajaa
