
/- eqColourS, eqPicture answer true of slices that read alike. -/
import Derived.Test.YthlkpopmoodmgaaMem
import Derived.Test.YthlkpopmoodmgaaEq2
import Derived.Deep.RegionHeld3
namespace Go.Proofs.Ythlkpopmoodmgaa
open Go.RowKit

set_option maxHeartbeats 1000000 in
theorem eqColourS_any (A B : Option Addr) (n c d : Nat) (xs : List Col) (w : World) (hn : n ≤ maxLen) (ha : Rd colC 3 w w.heap.size A n xs) (hb : Rd colC 3 w w.heap.size B n xs) :
    Calls Try.prog 64 #[.slice A n c, .slice B n d] w fun e w' => e = .returned (.bool true) ∧ Below w.heap.size w w' := by
  unfold maxLen at hn
  go_enter Try.func64, Try.ntmps64
  go_wp2
  go_loopw [5] (fun i wr => ∃ k : Nat, k ≤ n ∧ i = .int .i64 k ∧ Below w.heap.size w wr) (fun i _ => n - (intOf i).toNat)
  case atStart => exact ⟨0, Nat.zero_le _, rfl, Below.refl _ _⟩
  case round =>
    obtain ⟨k, hk, rfl, hw⟩ := hrel
    by_cases hlt : k < n
    · obtain ⟨b, off, r, g, l, rfl, _, hx, h0, h1, h2⟩ := (ha.below hw).col hlt
      obtain ⟨b', off', r', g', l', rfl, _, hx', h0', h1', h2'⟩ := (hb.below hw).col hlt
      obtain ⟨rfl, rfl, rfl⟩ : r = r' ∧ g = g' ∧ l = l' := by rw [hx] at hx'; simpa using hx'
      clear hx hx'
      have hki : (k : Int) < (n : Int) := by omega
      have hk0 : (0 : Int) ≤ (k : Int) := by omega
      have lb : b < wr.heap.size := by have := hw.size; omega
      have lb' : b' < wr.heap.size := by have := hw.size; omega
      go_wp2
      go_region_held3 (fun w' => (∀ b o, b < wr.heap.size → w'.cell? ⟨b, o, none⟩ = wr.cell? ⟨b, o, none⟩) ∧ Below wr.heap.size wr w') (first | assumption | exact startS _ | exact stepS (by assumption) (by assumption)) (first | (go_at_call 101; refine (eqColour_any _ _ _ _).mono ?_; rintro e w' ⟨rfl, hb2⟩))
      have hS := ‹_ ∧ Below wr.heap.size wr w'›
      have hB := then_ hw hS.2
      go_wp2
      go_roundw
      case rel => exact ⟨k + 1, by omega, by go_num, hB⟩
      case measure => simp [intOf]; omega
    · obtain rfl : k = n := by omega
      go_wp2
      go_ret
      exact ⟨rfl, hw⟩

set_option maxHeartbeats 1000000 in
theorem eqPicture_any (A B : Option Addr) (s : Int) (n c d : Nat) (xs : List Col) (w : World) (hn : n ≤ maxLen) (ha : Rd colC 3 w w.heap.size A n xs) (hb : Rd colC 3 w w.heap.size B n xs) :
    Calls Try.prog 18 #[.agg #[.int .i64 s, .slice A n c], .agg #[.int .i64 s, .slice B n d]] w fun e w' => e = .returned (.bool true) ∧ Below w.heap.size w w' := by
  go_enter Try.func18, Try.ntmps18
  go_wp2_with (go_at_call 64; refine (eqColourS_any _ _ _ _ _ xs _ hn (ha.step ?_) (hb.step ?_)).mono ?_; (repeat (first | with_reducible assumption | exact Below.refl _ _ | (refine Below.setCell ?_ (by first | exact Nat.le_refl _ | (simp; done) | omega | (simp; omega)) _) | (refine below_drewN ?_ _) | (refine Below.drew ?_) | (refine Below.alloc ?_ (by first | exact Nat.le_refl _ | (simp; done) | omega | (simp; omega)) _) | (refine then_ ?_ (by with_reducible assumption)) | assumption | (refine then_ ?_ (by assumption)))); rintro e w' ⟨rfl, hb1⟩)
  go_ret
  exact ⟨rfl, by (repeat (first | with_reducible assumption | exact Below.refl _ _ | (refine Below.setCell ?_ (by first | exact Nat.le_refl _ | (simp; done) | omega | (simp; omega)) _) | (refine below_drewN ?_ _) | (refine Below.drew ?_) | (refine Below.alloc ?_ (by first | exact Nat.le_refl _ | (simp; done) | omega | (simp; omega)) _) | (refine then_ ?_ (by with_reducible assumption)) | assumption | (refine then_ ?_ (by assumption))))⟩
end Go.Proofs.Ythlkpopmoodmgaa
