
/- The walks of BackSym, PlaceOf, CellTo, both versions. -/
import Derived.Test.YthlkpopmoodmgaaSym
import Derived.Test.YthlkpopmoodmgaaGeoI
import Derived.Laws.FloatArith
import Derived.Deep.RegionHeld3
namespace Go.Proofs.Ythlkpopmoodmgaa
open Go.RowKit

def backP (t : Int) (f : Bool) : Int × Bool := if inB t 0 3 then (if f then t else (4 - t) % 4, f) else (0, false)

set_option maxHeartbeats 1000000 in
theorem backSym_any (t : Int) (f : Bool) (w : World) :
    Calls Try.prog 44 #[.agg #[.int .i64 t, .bool f]] w fun e w' => e = .returned (symP (backP t f)) ∧ Below w.heap.size w w' := by
  have r : backP t f = if inB t 0 3 then (if f then t else (4 - t) % 4, f) else (0, false) := rfl
  cases ht : inB t 0 3
  · rw [ht] at r
    have R := Lib.hid r
    clear r
    go_enter Try.func44, Try.ntmps44
    go_wp2_with (go_at_call 76; refine (isSym_any _ _ _).mono ?_; rintro e w1 ⟨rfl, hb1⟩; simp only [ht]; obtain ⟨hc1, hf1⟩ := bcell hb1)
    have hb := after2 hb1
    have hz := hb1.size
    simp only [World.size_alloc] at hz
    exact bodyPost_ret (v := symV 0 false) (by simp [results, Try.results44, go_sem, symV, hc1]) rfl ⟨by rw [R.out]; rfl, by (repeat (first | with_reducible assumption | exact Below.refl _ _ | (refine Below.setCell ?_ (by first | exact Nat.le_refl _ | (simp; done) | omega | (simp; omega)) _) | (refine below_drewN ?_ _) | (refine Below.drew ?_) | (refine Below.alloc ?_ (by first | exact Nat.le_refl _ | (simp; done) | omega | (simp; omega)) _) | (refine then_ ?_ (by with_reducible assumption)) | assumption | (refine then_ ?_ (by assumption))))⟩
  · obtain ⟨t0, t3⟩ := inB_true ht
    cases f
    all_goals
      rw [ht] at r
      have R := Lib.hid r
      clear r
      go_enter Try.func44, Try.ntmps44
      go_wp2_with (go_at_call 76; refine (isSym_any _ _ _).mono ?_; rintro e w1 ⟨rfl, hb1⟩; simp only [ht]; obtain ⟨hc1, hf1⟩ := bcell hb1; have hc0 := hc1 w.heap.size 0 (by simp; omega); have hc2 := hc1 w.heap.size 1 (by simp; omega); simp only [go_sem] at hc0 hc2)
      have hb := after2 hb1
      have hz := hb1.size
      simp only [World.size_alloc] at hz
      exact bodyPost_ret (v := symP (backP t _)) (by rw [R.out]; simp [results, Try.results44, go_sem, symV, symP, hc1]) rfl ⟨rfl, by (repeat (first | with_reducible assumption | exact Below.refl _ _ | (refine Below.setCell ?_ (by first | exact Nat.le_refl _ | (simp; done) | omega | (simp; omega)) _) | (refine below_drewN ?_ _) | (refine Below.drew ?_) | (refine Below.alloc ?_ (by first | exact Nat.le_refl _ | (simp; done) | omega | (simp; omega)) _) | (refine then_ ?_ (by with_reducible assumption)) | assumption | (refine then_ ?_ (by assumption))))⟩

/-- PlaceOf's two results -/
def placeQ (size cell : Int) (b : Bool) : Value := .tuple #[cxV (if b then flP (ptI size cell) else (0, 0)), .bool b]
def placeV (size cell : Int) : Value := placeQ size cell (okCell size cell)

theorem l4Place_any (size cell : Int) (w : World) (h : okCell size cell = true) :
    Calls Try.prog 111 #[.int .i64 size, .int .i64 cell] w fun e w' => e = .returned (.complex .f32 (fl (ptI size cell).1) (fl (ptI size cell).2)) ∧ Dr w w' := by
  obtain ⟨h1, h2, h3, h4, h5, h6⟩ := okCell_bd h
  obtain ⟨m1, m2, m3, m4⟩ := mod_bd h1 h3
  have H := Lib.hid h4
  clear h h4
  go_enter Try.func111, Try.ntmps111
  go_wp2
  go_quiet (fail)
  go_wp2
  go_ret
  exact ⟨rfl, Dr.drewN _ _⟩

theorem placeOf_any (size cell : Int) (w : World) :
    Calls Try.prog 54 #[.int .i64 size, .int .i64 cell] w fun e w' => e = .returned (placeV size cell) ∧ Dr w w' := by
  have r : okCell size cell = (inB size 1 8 && inB cell 0 (size * size - 1)) := rfl
  cases ha : inB size 1 8
  · rw [ha] at r
    have R := Lib.hid r
    clear r
    go_enter Try.func54, Try.ntmps54
    go_wp2_with (go_at_call 60; refine (within_any _ _ _ _).mono ?_; rintro e w' ⟨rfl, rfl⟩; simp only [ha])
    go_ret2
    exact ⟨by unfold placeV; rw [R.out]; rfl, Dr.refl _⟩
  · obtain ⟨b1, b2⟩ := inB_true ha
    have b3 : size * size ≤ 8 * 8 := Int.mul_le_mul b2 b2 (by omega) (by omega)
    have b4 : 1 * 1 ≤ size * size := Int.mul_le_mul b1 b1 (by omega) (by omega)
    cases hb : inB cell 0 (size * size - 1)
    · rw [ha, hb] at r
      have R := Lib.hid r
      clear r
      go_enter Try.func54, Try.ntmps54
      go_wp2_with (go_at_call 60; refine (within_any _ _ _ _).mono ?_; rintro e w' ⟨rfl, rfl⟩; first | simp only [ha] | simp only [hb])
      go_ret2
      exact ⟨by unfold placeV; rw [R.out]; rfl, Dr.refl _⟩
    · rw [ha, hb] at r
      have hk : okCell size cell = true := r
      have R := Lib.hid hk
      clear r
      obtain ⟨h1, h2, h3, h4, h5, h6⟩ := okCell_bd hk
      obtain ⟨m1, m2, m3, m4⟩ := mod_bd h1 h3
      have H := Lib.hid h4
      clear h4 hk
      go_enter Try.func54, Try.ntmps54
      go_wp2_with (go_at_call 60; refine (within_any _ _ _ _).mono ?_; rintro e w' ⟨rfl, rfl⟩; first | simp only [ha] | simp only [hb])
      go_quiet (fail)
      go_wp2
      go_ret2
      exact ⟨by unfold placeV; rw [R.out]; rfl, Dr.drewN _ _⟩
end Go.Proofs.Ythlkpopmoodmgaa
