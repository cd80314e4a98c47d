
/- toColourS, toPicture: a copy in memory of the call's own. -/
import Derived.Test.YthlkpopmoodmgaaEqS
import Derived.Laws.OwnMore
namespace Go.Proofs.Ythlkpopmoodmgaa
open Go.RowKit
attribute [local go_sem] run_store_float run_store_complex

theorem infoCol : (Try.prog.info? 78).map (fun i => (i.zero, i.size, i.bytes)) = some (some (.agg #[.float .f32 0, .float .f32 0, .float .f32 0]), 3, 12) := by kernel_rfl

set_option maxHeartbeats 1000000 in
theorem toColourS_any (A : Option Addr) (n c : Nat) (xs : List Col) (w : World) (hn : n ≤ 1048576) (ha : Rd colC 3 w w.heap.size A n xs) :
    Calls Try.prog 59 #[.slice A n c] w fun e w' => ∃ A', e = .returned (.slice A' n n) ∧ w'.ownsRow w.heap.size 78 3 (.slice A' n n) n (flat colC xs) ∧ Below w.heap.size w w' := by
  obtain ⟨i0, hi, hz0, hz1, hz2⟩ := info_parts infoCol
  have hmk := fun wx => run_make (P := Try.prog) wx 27 78 i0 _ Try.underlying27 hi hz0 .i64 .i64 n n (by omega) (Int.le_refl _) (by rw [hz2]; omega) (by omega)
  simp only [Int.toNat_natCast, hz1] at hmk
  have hlen := flat_length colC_len xs
  rw [ha.1] at hlen
  have H := Lib.hid hlen
  clear hlen
  go_enter Try.func59, Try.ntmps59
  go_wp2
  go_loopw [4] (fun i wr => ∃ (k : Nat) (ys : List Value), k ≤ n ∧ i = .int .i64 k ∧ Pre k 3 ys (flat colC xs) ∧ wr.ownsRow w.heap.size 78 3 (.slice (some ⟨w.heap.size, 0, none⟩) n n) n ys ∧ Below w.heap.size w wr)
    (fun i _ => n - (intOf i).toNat)
  case atStart =>
    exact ⟨0, _, Nat.zero_le _, rfl, Pre.zero (by rw [H.out]; simp [madeCells]), World.ownsRow_lit w _ n (Nat.le_refl _) (by unfold maxLen; omega) (by simp [madeCells]), by (repeat (first | with_reducible assumption | exact Below.refl _ _ | (refine Below.setCell ?_ (by first | exact Nat.le_refl _ | (simp; done) | omega | (simp; omega)) _) | (refine below_drewN ?_ _) | (refine Below.drew ?_) | (refine Below.alloc ?_ (by first | exact Nat.le_refl _ | (simp; done) | omega | (simp; omega)) _) | (refine then_ ?_ (by with_reducible assumption)) | assumption | (refine then_ ?_ (by assumption))))⟩
  case round =>
    obtain ⟨k, ys, hk, rfl, hpre, hown, hw⟩ := hrel
    by_cases hlt : k < n
    · obtain ⟨b, off, r, g, l, rfl, hbl, hx, h0, h1, h2⟩ := (ha.below hw).col hlt
      have lb : b < wr.heap.size := by have := hw.size; omega
      have e0 := flat_get colC_len xs k _ hx 0 (.float .f32 r) rfl
      have e1 := flat_get colC_len xs k _ hx 1 (.float .f32 g) rfl
      have e2 := flat_get colC_len xs k _ hx 2 (.float .f32 l) rfl
      have P3 := Lib.hid (hpre.step3 e0 e1 e2)
      have OW := Lib.hid hown
      clear hx e0 e1 e2 hpre hown
      have hki : (k : Int) < (n : Int) := by omega
      have hk0 : (0 : Int) ≤ (k : Int) := by omega
      go_wp2_with (go_at_call 98; refine (toColour_any _ _ _ _).mono ?_; rintro e w1 ⟨rfl, hb1⟩; have OW1 := Lib.hid (owns_below OW.out hb1); obtain ⟨v0, hv0⟩ := owns_cell OW1.out (k * 3) (by omega); obtain ⟨v1, hv1⟩ := owns_cell OW1.out (k * 3 + 1) (by omega); obtain ⟨v2, hv2⟩ := owns_cell OW1.out (k * 3 + 2) (by omega); have hfr := fun j => OW1.out.frozenAt j)
      go_roundw
      case rel => exact ⟨k + 1, _, by omega, by go_num, P3.out, (((OW1.out.stored (k * 3) _).1.stored (k * 3 + 1) _).1.stored (k * 3 + 2) _).1, by (repeat (first | with_reducible assumption | exact Below.refl _ _ | (refine Below.setCell ?_ (by first | exact Nat.le_refl _ | (simp; done) | omega | (simp; omega)) _) | (refine below_drewN ?_ _) | (refine Below.drew ?_) | (refine Below.alloc ?_ (by first | exact Nat.le_refl _ | (simp; done) | omega | (simp; omega)) _) | (refine then_ ?_ (by with_reducible assumption)) | assumption | (refine then_ ?_ (by assumption))))⟩
      case measure => simp [intOf]; omega
    · obtain rfl : k = n := by omega
      have e : ys = flat colC xs := hpre.done (by rw [H.out]; omega)
      go_wp2
      go_ret
      exact ⟨_, rfl, by rw [← e]; exact hown, hw⟩

set_option maxHeartbeats 1000000 in
theorem toPicture_any (s : Int) (A : Option Addr) (n c : Nat) (xs : List Col) (w : World) (hn : n ≤ 1048576) (ha : Rd colC 3 w w.heap.size A n xs) :
    Calls Try.prog 16 #[.agg #[.int .i64 s, .slice A n c]] w fun e w' => ∃ A', e = .returned (.agg #[.int .i64 s, .slice A' n n]) ∧ w'.ownsRow w.heap.size 78 3 (.slice A' n n) n (flat colC xs) ∧ Below w.heap.size w w' := by
  go_enter Try.func16, Try.ntmps16
  go_wp2_with (go_at_call 59; refine (toColourS_any _ _ _ xs _ hn (ha.step ?_)).mono ?_; (repeat (first | with_reducible assumption | exact Below.refl _ _ | (refine Below.setCell ?_ (by first | exact Nat.le_refl _ | (simp; done) | omega | (simp; omega)) _) | (refine below_drewN ?_ _) | (refine Below.drew ?_) | (refine Below.alloc ?_ (by first | exact Nat.le_refl _ | (simp; done) | omega | (simp; omega)) _) | (refine then_ ?_ (by with_reducible assumption)) | assumption | (refine then_ ?_ (by assumption)))); rintro e w1 ⟨A', rfl, hown, hb1⟩; have OW := Lib.hid hown; clear hown; have kf11_0 := keepF (p := ⟨w.heap.size + 1 + 1, 0, none⟩) (v := .int .i64 s) (by first | assumption | (simp [go_sem]; done) | (simp [go_sem, *]; done)) (by first | assumption | (simp [go_sem]; done) | (simp [go_sem, *]; done)) hb1; have kf11_1 := keepF (p := ⟨w.heap.size + 1 + 1, 1, none⟩) (v := .slice none 0 0) (by first | assumption | (simp [go_sem]; done) | (simp [go_sem, *]; done)) (by first | assumption | (simp [go_sem]; done) | (simp [go_sem, *]; done)) hb1; have kc11_0 := keepC (p := ⟨w.heap.size + 1 + 1, 0, none⟩) (v := .int .i64 s) (by first | assumption | (simp [go_sem]; done) | (simp [go_sem, *]; done)) hb1; have kc11_1 := keepC (p := ⟨w.heap.size + 1 + 1, 1, none⟩) (v := .slice none 0 0) (by first | assumption | (simp [go_sem]; done) | (simp [go_sem, *]; done)) hb1; have lb11_ := (show w.heap.size + 1 + 1 < _ from World.block_lt_of_cell? _ _ kc11_0); have kf1_0 := keepF (p := ⟨w.heap.size + 1, 0, none⟩) (v := .int .i64 0) (by first | assumption | (simp [go_sem]; done) | (simp [go_sem, *]; done)) (by first | assumption | (simp [go_sem]; done) | (simp [go_sem, *]; done)) hb1; have kf1_1 := keepF (p := ⟨w.heap.size + 1, 1, none⟩) (v := .slice none 0 0) (by first | assumption | (simp [go_sem]; done) | (simp [go_sem, *]; done)) (by first | assumption | (simp [go_sem]; done) | (simp [go_sem, *]; done)) hb1; have kc1_0 := keepC (p := ⟨w.heap.size + 1, 0, none⟩) (v := .int .i64 0) (by first | assumption | (simp [go_sem]; done) | (simp [go_sem, *]; done)) hb1; have kc1_1 := keepC (p := ⟨w.heap.size + 1, 1, none⟩) (v := .slice none 0 0) (by first | assumption | (simp [go_sem]; done) | (simp [go_sem, *]; done)) hb1; have lb1_ := (show w.heap.size + 1 < _ from World.block_lt_of_cell? _ _ kc1_0))
  refine bodyPost_ret (v := .agg #[.int .i64 s, .slice A' n n]) (by simp [results, Try.results16, go_sem, kc1_0, kc1_1]) rfl ⟨A', rfl, ?_, by (repeat (first | with_reducible assumption | exact Below.refl _ _ | (refine Below.setCell ?_ (by first | exact Nat.le_refl _ | (simp; done) | omega | (simp; omega)) _) | (refine below_drewN ?_ _) | (refine Below.drew ?_) | (refine Below.alloc ?_ (by first | exact Nat.le_refl _ | (simp; done) | omega | (simp; omega)) _) | (refine then_ ?_ (by with_reducible assumption)) | assumption | (refine then_ ?_ (by assumption))))⟩
  refine owns_mono (base' := w.heap.size + 3) ?_ (by omega)
  have O := OW.out
  simp only [World.size_alloc] at O
  exact ownsRow_setCell_below (ownsRow_setCell_below (ownsRow_setCell_below O (by simp) _) (by simp) _) (by simp) _


/-- what is left of the budget -/
def left_ (l : Int) (n : Nat) : Int := if (n : Int) ≤ l then l - n else -1
theorem left_yes {l : Int} {n : Nat} (h : (n : Int) ≤ l) : left_ l n = l - n := if_pos h
theorem left_no {l : Int} {n : Nat} (h : ¬ (n : Int) ≤ l) : left_ l n = -1 := if_neg h

set_option maxHeartbeats 1000000 in
theorem szColourS_any (A : Option Addr) (n c : Nat) (l : Int) (w : World) (hn : n ≤ maxLen) (h1 : 0 ≤ l) (h2 : l ≤ 1048576) :
    Calls Try.prog 56 #[.slice A n c, .int .i64 l] w fun e w' => e = .returned (.int .i64 (left_ l n)) ∧ w = w' := by
  unfold maxLen at hn
  have r : left_ l n = if (n : Int) ≤ l then l - n else -1 := rfl
  by_cases h : (n : Int) ≤ l
  · rw [if_pos h] at r
    rw [r]
    go_enter Try.func56, Try.ntmps56
    go_wp2
    go_ret
    exact ⟨rfl, rfl⟩
  · rw [if_neg h] at r
    rw [r]
    go_enter Try.func56, Try.ntmps56
    go_wp2
    go_ret
    exact ⟨rfl, rfl⟩

set_option maxHeartbeats 1000000 in
theorem szPicture_any (s : Int) (A : Option Addr) (n c : Nat) (l : Int) (w : World) (hn : n ≤ maxLen) (h1 : 0 ≤ l) (h2 : l ≤ 1048576) :
    Calls Try.prog 14 #[.agg #[.int .i64 s, .slice A n c], .int .i64 l] w fun e w' => e = .returned (.int .i64 (left_ l n)) ∧ Below w.heap.size w w' := by
  by_cases h : (n : Int) ≤ l
  · have R := Lib.hid (left_yes h)
    have hp : 0 ≤ l - n := by omega
    go_enter Try.func14, Try.ntmps14
    go_wp2_with (go_at_call 56; refine (szColourS_any _ _ _ _ _ hn h1 h2).mono ?_; rintro e w' ⟨rfl, rfl⟩; rw [R.out])
    go_ret
    exact ⟨by rw [R.out]; rfl, by (repeat (first | with_reducible assumption | exact Below.refl _ _ | (refine Below.setCell ?_ (by first | exact Nat.le_refl _ | (simp; done) | omega | (simp; omega)) _) | (refine below_drewN ?_ _) | (refine Below.drew ?_) | (refine Below.alloc ?_ (by first | exact Nat.le_refl _ | (simp; done) | omega | (simp; omega)) _) | (refine then_ ?_ (by with_reducible assumption)) | assumption | (refine then_ ?_ (by assumption))))⟩
  · have R := Lib.hid (left_no h)
    go_enter Try.func14, Try.ntmps14
    go_wp2_with (go_at_call 56; refine (szColourS_any _ _ _ _ _ hn h1 h2).mono ?_; rintro e w' ⟨rfl, rfl⟩; rw [R.out])
    go_ret
    exact ⟨by rw [R.out]; rfl, by (repeat (first | with_reducible assumption | exact Below.refl _ _ | (refine Below.setCell ?_ (by first | exact Nat.le_refl _ | (simp; done) | omega | (simp; omega)) _) | (refine below_drewN ?_ _) | (refine Below.drew ?_) | (refine Below.alloc ?_ (by first | exact Nat.le_refl _ | (simp; done) | omega | (simp; omega)) _) | (refine then_ ?_ (by with_reducible assumption)) | assumption | (refine then_ ?_ (by assumption))))⟩
end Go.Proofs.Ythlkpopmoodmgaa
