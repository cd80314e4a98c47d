
/- The walks of CellTo, both versions. -/
import Derived.Test.YthlkpopmoodmgaaCell
namespace Go.Proofs.Ythlkpopmoodmgaa
open Go.RowKit

theorem toCell_bd {size : Int} {q : Int × Int} (h1 : 1 ≤ size) (h2 : size ≤ 8) (h : Sm (size - 1) q) : 0 ≤ (size - 1 - q.2) / 2 ∧ (size - 1 - q.2) / 2 ≤ 7 ∧ 0 ≤ (q.1 + size - 1) / 2 ∧ (q.1 + size - 1) / 2 ≤ 7 ∧
    0 ≤ ((size - 1 - q.2) / 2) * size ∧ ((size - 1 - q.2) / 2) * size ≤ 7 * 8 := by
  obtain ⟨a, b, c, d⟩ := h
  refine ⟨by omega, by omega, by omega, by omega, Int.mul_nonneg (by omega) (by omega), Int.mul_le_mul (by omega) h2 (by omega) (by omega)⟩

set_option maxHeartbeats 1000000 in
theorem l4Cell_any (size : Int) (q : Int × Int) (w : World) (h1 : 1 ≤ size) (h2 : size ≤ 8) (h : Sm (size - 1) q) :
    Calls Try.prog 109 #[.int .i64 size, cxV (flP q)] w fun e w' => e = .returned (.int .i64 (toCell size q)) ∧ w = w' := by
  obtain ⟨b1, b2, b3, b4, b5, b6⟩ := toCell_bd h1 h2 h
  obtain ⟨x, y⟩ := q
  have R := Lib.hid (show toCell size (x, y) = (size - 1 - y) / 2 * size + (x + size - 1) / 2 from rfl)
  obtain ⟨a, b, c, d⟩ := h
  dsimp only at a b c d b1 b2 b3 b4 b5 b6
  have k1 := fun wx => run_convert_float_int (P := Try.prog) wx 38 3 .f32 .i64 (fl x) x (by kernel_rfl) Try.underlying3 (small_at x (by omega) (by omega)).2.2.2.2
  have k2 := fun wx => run_convert_float_int (P := Try.prog) wx 38 3 .f32 .i64 (fl y) y (by kernel_rfl) Try.underlying3 (small_at y (by omega) (by omega)).2.2.2.2
  show Calls Try.prog 109 #[.int .i64 size, .complex .f32 (fl x) (fl y)] w _
  go_enter Try.func109, Try.ntmps109
  go_wp2
  go_ret
  exact ⟨by rw [R.out]; rfl, rfl⟩

/-- a boxed symmetry stays readable -/
theorem box2_drewN {w W : World} {g : Nat} {a b : Value} (h : W.cell? ⟨g, 0, none⟩ = some a ∧ W.cell? ⟨g, 1, none⟩ = some b ∧ Below w.heap.size w W) (n : Nat) :
    (W.drewN n).cell? ⟨g, 0, none⟩ = some a ∧ (W.drewN n).cell? ⟨g, 1, none⟩ = some b ∧ Below w.heap.size w (W.drewN n) := ⟨h.1, h.2.1, below_drewN h.2.2 n⟩
theorem box2_below {w W W' : World} {g : Nat} {a b : Value} (h : W.cell? ⟨g, 0, none⟩ = some a ∧ W.cell? ⟨g, 1, none⟩ = some b ∧ Below w.heap.size w W) (k : Below W.heap.size W W') :
    W'.cell? ⟨g, 0, none⟩ = some a ∧ W'.cell? ⟨g, 1, none⟩ = some b ∧ Below w.heap.size w W' := by
  obtain ⟨h1, h2, h3⟩ := h
  have hg := World.block_lt_of_cell? W _ h1
  exact ⟨by rw [k.cell hg]; exact h1, by rw [k.cell (p := ⟨g, 1, none⟩) hg]; exact h2, then_ h3 k⟩

def cellV (size cell t : Int) (f : Bool) : Int := if okCell size cell && inB t 0 3 then cellI size cell t f else -1

set_option maxRecDepth 10000 in
set_option maxHeartbeats 1000000 in
theorem specCellTo_ok (size cell t : Int) (f : Bool) (w : World) (hk : okCell size cell = true) (ht : inB t 0 3 = true) :
    Calls Try.prog 75 #[.int .i64 size, .int .i64 cell, .agg #[.int .i64 t, .bool f]] w fun e w' => e = .returned (.int .i64 (cellI size cell t f)) ∧ Below w.heap.size w w' := by
  have r : okCell size cell = (inB size 1 8 && inB cell 0 (size * size - 1)) := rfl
  rw [hk] at r
  have r' := r.symm
  rw [Bool.and_eq_true] at r'
  obtain ⟨ha, hb⟩ := r'
  clear r
  obtain ⟨b1, b2⟩ := inB_true ha
  have b3 : size * size ≤ 8 * 8 := Int.mul_le_mul b2 b2 (by omega) (by omega)
  have b4 : 1 * 1 ≤ size * size := Int.mul_le_mul b1 b1 (by omega) (by omega)
  have hs := aI_sm (ptI_sm hk) t f
  have R := Lib.hid (actS_small ((ptI_sm hk).mono (by omega)) t f)
  have K := Lib.hid hk
  clear hk
  go_enter Try.func75, Try.ntmps75
  go_wp2_with (first
    | (go_at_call 57; refine (l1In_any _ _ _ _).mono ?_; rintro e w' ⟨rfl, rfl⟩; first | simp only [ha] | simp only [hb])
    | (go_at_call 74; refine (specIsSym_any _ _ _).mono ?_; rintro e w1 ⟨rfl, hb1⟩; simp only [ht]; obtain ⟨hc1, hf1⟩ := bcell hb1; have hz := hb1.size; simp only [World.size_alloc] at hz))
  have hc0 := hc1 w.heap.size 0 (by simp)
  have hc2 := hc1 w.heap.size 1 (by simp)
  simp only [go_sem] at hc0 hc2
  have hbb := after1 hb1
  clear hc1 hf1 hb1
  go_region_held3 (fun w' => w'.cell? ⟨w.heap.size, 0, none⟩ = some (.int .i64 t) ∧ w'.cell? ⟨w.heap.size, 1, none⟩ = some (.bool f) ∧ Below w.heap.size w w') (first | assumption | exact ⟨hc0, hc2, hbb.drew⟩ | exact box2_below (by assumption) (by assumption))
    (first
      | (go_at_call 111; refine (l4Place_any _ _ _ K.out).mono ?_; rintro e w' ⟨rfl, hb2⟩; replace hb2 := hb2.below)
      | (go_at_call 110; refine (l1Act_any t f (fl (ptI size cell).1) (fl (ptI size cell).2) _ ht).mono ?_; rintro e w' ⟨rfl, hb2⟩; rw [R.out])
      | (go_at_call 109; refine (l4Cell_any size (aI t f (ptI size cell)) _ b1 b2 hs).mono ?_; rintro e w' ⟨rfl, rfl⟩))
  have hB : ∃ w2, w2 = w' ∧ Below w.heap.size w w2 := ⟨_, rfl, by have h := ‹_ ∧ _ ∧ Below w.heap.size w w'›; exact h.2.2⟩
  obtain ⟨w2, rfl, hB⟩ := hB
  go_wp2
  go_ret
  exact ⟨rfl, hB⟩

theorem specCellTo_any (size cell t : Int) (f : Bool) (w : World) :
    Calls Try.prog 75 #[.int .i64 size, .int .i64 cell, .agg #[.int .i64 t, .bool f]] w fun e w' => e = .returned (.int .i64 (cellV size cell t f)) ∧ Below w.heap.size w w' := by
  have r : cellV size cell t f = if okCell size cell && inB t 0 3 then cellI size cell t f else -1 := rfl
  cases hk : okCell size cell
  · rw [hk] at r
    have R := Lib.hid r
    clear r
    have r2 : okCell size cell = (inB size 1 8 && inB cell 0 (size * size - 1)) := rfl
    rw [hk] at r2
    cases ha : inB size 1 8
    · clear r2 hk
      go_enter Try.func75, Try.ntmps75
      go_wp2_with (go_at_call 57; refine (l1In_any _ _ _ _).mono ?_; rintro e w' ⟨rfl, rfl⟩; simp only [ha])
      go_ret
      exact ⟨by rw [R.out]; rfl, by (repeat (first | with_reducible assumption | exact Below.refl _ _ | (refine Below.setCell ?_ (by first | exact Nat.le_refl _ | (simp; done) | omega | (simp; omega)) _) | (refine below_drewN ?_ _) | (refine Below.drew ?_) | (refine Below.alloc ?_ (by first | exact Nat.le_refl _ | (simp; done) | omega | (simp; omega)) _) | (refine then_ ?_ (by with_reducible assumption)) | assumption | (refine then_ ?_ (by assumption))))⟩
    · rw [ha] at r2
      have hb : inB cell 0 (size * size - 1) = false := by simpa using r2.symm
      clear r2 hk
      obtain ⟨b1, b2⟩ := inB_true ha
      have b3 : size * size ≤ 8 * 8 := Int.mul_le_mul b2 b2 (by omega) (by omega)
      have b4 : 1 * 1 ≤ size * size := Int.mul_le_mul b1 b1 (by omega) (by omega)
      go_enter Try.func75, Try.ntmps75
      go_wp2_with (go_at_call 57; refine (l1In_any _ _ _ _).mono ?_; rintro e w' ⟨rfl, rfl⟩; first | simp only [ha] | simp only [hb])
      go_ret
      exact ⟨by rw [R.out]; rfl, by (repeat (first | with_reducible assumption | exact Below.refl _ _ | (refine Below.setCell ?_ (by first | exact Nat.le_refl _ | (simp; done) | omega | (simp; omega)) _) | (refine below_drewN ?_ _) | (refine Below.drew ?_) | (refine Below.alloc ?_ (by first | exact Nat.le_refl _ | (simp; done) | omega | (simp; omega)) _) | (refine then_ ?_ (by with_reducible assumption)) | assumption | (refine then_ ?_ (by assumption))))⟩
  · cases ht : inB t 0 3
    · rw [hk, ht] at r
      have R := Lib.hid r
      clear r
      have r2 : okCell size cell = (inB size 1 8 && inB cell 0 (size * size - 1)) := rfl
      rw [hk] at r2
      have r' := r2.symm
      rw [Bool.and_eq_true] at r'
      obtain ⟨ha, hb⟩ := r'
      clear r2 hk
      obtain ⟨b1, b2⟩ := inB_true ha
      have b3 : size * size ≤ 8 * 8 := Int.mul_le_mul b2 b2 (by omega) (by omega)
      have b4 : 1 * 1 ≤ size * size := Int.mul_le_mul b1 b1 (by omega) (by omega)
      go_enter Try.func75, Try.ntmps75
      go_wp2_with (first
        | (go_at_call 57; refine (l1In_any _ _ _ _).mono ?_; rintro e w' ⟨rfl, rfl⟩; first | simp only [ha] | simp only [hb])
        | (go_at_call 74; refine (specIsSym_any _ _ _).mono ?_; rintro e w1 ⟨rfl, hb1⟩; simp only [ht]; obtain ⟨hc1, hf1⟩ := bcell hb1))
      go_ret
      exact ⟨by rw [R.out]; rfl, after1 hb1⟩
    · have e : cellV size cell t f = cellI size cell t f := by rw [r, hk, ht]; rfl
      rw [e]
      exact specCellTo_ok size cell t f w hk ht

theorem placeOf_ok (size cell : Int) (w : World) (h : okCell size cell = true) :
    Calls Try.prog 54 #[.int .i64 size, .int .i64 cell] w fun e w' => e = .returned (.tuple #[.complex .f32 (fl (ptI size cell).1) (fl (ptI size cell).2), .bool true]) ∧ Dr w w' :=
  (placeOf_any size cell w).mono fun e w' ⟨he, hd⟩ => ⟨by rw [he]; unfold placeV; rw [h]; rfl, hd⟩
theorem placeOf_no (size cell : Int) (w : World) (h : okCell size cell = false) :
    Calls Try.prog 54 #[.int .i64 size, .int .i64 cell] w fun e w' => e = .returned (.tuple #[.complex .f32 0 0, .bool false]) ∧ Dr w w' :=
  (placeOf_any size cell w).mono fun e w' ⟨he, hd⟩ => ⟨by rw [he]; unfold placeV; rw [h]; rfl, hd⟩

set_option maxRecDepth 10000 in
set_option maxHeartbeats 1000000 in
theorem cellTo_any (size cell t : Int) (f : Bool) (w : World) :
    Calls Try.prog 77 #[.int .i64 size, .int .i64 cell, .agg #[.int .i64 t, .bool f]] w fun e w' => e = .returned (.int .i64 (cellV size cell t f)) ∧ Below w.heap.size w w' := by
  have r : cellV size cell t f = if okCell size cell && inB t 0 3 then cellI size cell t f else -1 := rfl
  cases hk : okCell size cell
  · rw [hk] at r
    have R := Lib.hid r
    have K := Lib.hid hk
    clear r hk
    go_enter Try.func77, Try.ntmps77
    go_wp2_with (go_at_call 54; refine (placeOf_no _ _ _ K.out).mono ?_; rintro e w' ⟨rfl, n, rfl⟩)
    go_ret
    exact ⟨by rw [R.out]; rfl, by (repeat (first | with_reducible assumption | exact Below.refl _ _ | (refine Below.setCell ?_ (by first | exact Nat.le_refl _ | (simp; done) | omega | (simp; omega)) _) | (refine below_drewN ?_ _) | (refine Below.drew ?_) | (refine Below.alloc ?_ (by first | exact Nat.le_refl _ | (simp; done) | omega | (simp; omega)) _) | (refine then_ ?_ (by with_reducible assumption)) | assumption | (refine then_ ?_ (by assumption))))⟩
  · cases ht : inB t 0 3
    · rw [hk, ht] at r
      have R := Lib.hid r
      have K := Lib.hid hk
      clear r hk
      go_enter Try.func77, Try.ntmps77
      go_wp2_with (first
        | (go_at_call 54; refine (placeOf_ok _ _ _ K.out).mono ?_; rintro e w' ⟨rfl, n, rfl⟩)
        | (go_at_call 76; refine (isSym_any _ _ _).mono ?_; rintro e w1 ⟨rfl, hb1⟩; simp only [ht]; obtain ⟨hc1, hf1⟩ := bcell hb1))
      go_ret
      exact ⟨by rw [R.out]; rfl, by (repeat (first | with_reducible assumption | exact Below.refl _ _ | (refine Below.setCell ?_ (by first | exact Nat.le_refl _ | (simp; done) | omega | (simp; omega)) _) | (refine below_drewN ?_ _) | (refine Below.drew ?_) | (refine Below.alloc ?_ (by first | exact Nat.le_refl _ | (simp; done) | omega | (simp; omega)) _) | (refine then_ ?_ (by with_reducible assumption)) | assumption | (refine then_ ?_ (by assumption))))⟩
    · rw [hk, ht] at r
      have hp := point_small ((ptI_sm hk).mono (c := 8) (by have := okCell_bd hk; omega))
      have hr := actI_small ((ptI_sm hk).mono (c := 8) (by have := okCell_bd hk; omega)) t f
      have hs := aI_sm (ptI_sm hk) t f
      obtain ⟨h1, h2, h3, h4, h5, h6⟩ := okCell_bd hk
      obtain ⟨b1, b2, b3, b4, b5, b6⟩ := toCell_bd h1 h2 hs
      have hq : cellV size cell t f = toCell size (aI t f (ptI size cell)) := r
      clear r
      generalize aI t f (ptI size cell) = q at *
      obtain ⟨x, y⟩ := q
      have R := Lib.hid (show cellV size cell t f = (size - 1 - y) / 2 * size + (x + size - 1) / 2 from hq)
      have A := Lib.hid hr
      have K := Lib.hid hk
      have H := Lib.hid h4
      obtain ⟨a, b, c, d⟩ := hs
      dsimp only at a b c d b1 b2 b3 b4 b5 b6
      clear hq hr hk h4 h6
      have k1 := fun wx => run_convert_float_int (P := Try.prog) wx 38 3 .f32 .i64 (fl x) x (by kernel_rfl) Try.underlying3 (small_at x (by omega) (by omega)).2.2.2.2
      have k2 := fun wx => run_convert_float_int (P := Try.prog) wx 38 3 .f32 .i64 (fl y) y (by kernel_rfl) Try.underlying3 (small_at y (by omega) (by omega)).2.2.2.2
      go_enter Try.func77, Try.ntmps77
      go_wp2_with (first
        | (go_at_call 54; refine (placeOf_ok _ _ _ K.out).mono ?_; rintro e w' ⟨rfl, n, rfl⟩)
        | (go_at_call 76; refine (isSym_any _ _ _).mono ?_; rintro e w1 ⟨rfl, hb1⟩; simp only [ht]; obtain ⟨hc1, hf1⟩ := bcell hb1)
        | (go_at_call 93; refine (actSym_ok _ _ _ _ _ ht hp).mono ?_; rintro e w2 ⟨rfl, hb2⟩; rw [A.out]; simp only [cxV, flP]))
      go_ret
      exact ⟨by rw [R.out]; rfl, by (repeat (first | with_reducible assumption | exact Below.refl _ _ | (refine Below.setCell ?_ (by first | exact Nat.le_refl _ | (simp; done) | omega | (simp; omega)) _) | (refine below_drewN ?_ _) | (refine Below.drew ?_) | (refine Below.alloc ?_ (by first | exact Nat.le_refl _ | (simp; done) | omega | (simp; omega)) _) | (refine then_ ?_ (by with_reducible assumption)) | assumption | (refine then_ ?_ (by assumption))))⟩
end Go.Proofs.Ythlkpopmoodmgaa
