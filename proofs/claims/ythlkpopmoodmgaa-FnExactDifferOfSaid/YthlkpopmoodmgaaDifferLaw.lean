
/- For any two pictures the program's DifferOf returns what the reference's returns, and both arguments stay as they were. No condition. -/
import Derived.Test.YthlkpopmoodmgaaDiffer
import Derived.Test.YthlkpopmoodmgaaSame
import Derived.Test.YthlkpopmoodmgaaOpen
import Derived.ProofKit
import Derived.ChangeOld
import Derived.Below
namespace Go.Proofs.Ythlkpopmoodmgaa
open Go.ChangeShapes Go.WideShapes Go.ChangeAt Go.RowKit Go.Joins

theorem conv_nn {x : Nat} (h : x < 2139095040) : ∃ r, floatToFloatBits .f32 x .f64 = some r := by
  cases hc : floatToFloatBits .f32 x .f64 with
  | some r => exact ⟨r, rfl⟩
  | none =>
    exfalso
    obtain ⟨s, f, hn⟩ := conv_none hc
    obtain ⟨m, p, e, _⟩ := read_val (fin_nn h)
    have e2 : FloatKind.f32.decode x = Ieee.single.read x := rfl
    rw [e2, e] at hn
    cases hn

set_option maxRecDepth 10000 in
set_option maxHeartbeats 4000000 in
theorem lawDiffer_go (A B : Option Addr) (s1 s2 : Int) (n m c d : Nat) (xs ys : List Col) (w : World) (hn : n ≤ 1048576) (hm : n + m ≤ 1048576) (ha : Rd colC 3 w w.heap.size A n xs) (hb : Rd colC 3 w w.heap.size B m ys) :
    Calls Try.prog 5 #[.agg #[.int .i64 s1, .slice A n c], .agg #[.int .i64 s2, .slice B m d]] w fun e w' => e = .returned (.bool true) ∧ Below w.heap.size w w' := by
  have hn' : n ≤ maxLen := by unfold maxLen; omega
  have hm' : m ≤ maxLen := by unfold maxLen; omega
  have hl1 : (n : Int) ≤ 1048576 := by omega
  have hl2 : (m : Int) ≤ 1048576 - n := by omega
  have L1 := Lib.hid (left_yes hl1)
  have L2 := Lib.hid (left_yes hl2)
  have hp1 : (0 : Int) ≤ 1048576 - n := by omega
  have hp2 : (0 : Int) ≤ 1048576 - n - m := by omega
  obtain ⟨D, hD⟩ : ∃ D, D = differ s1 xs s2 ys := ⟨_, rfl⟩
  have hDn : D.2 < 2139095040 := by
    rw [hD]; unfold differ; split
    · exact dS_nn _ _ _
    · decide
  obtain ⟨rr, hrr⟩ := conv_nn hDn
  have kd := fun wx => run_convert_float_float (P := Try.prog) wx 38 42 .f32 .f64 D.2 rr (by kernel_rfl) Try.underlying42 hrr
  have hz : (D.1 != D.1) = false := by simp
  clear hDn hrr
  have ks := fun A B c d wx h1 h2 => specDifferOf_any A B s1 s2 n m c d xs ys wx hn' hm' h1 h2
  have ki := fun A B c d wx h1 h2 => differOf_any A B s1 s2 n m c d xs ys wx hn' hm' h1 h2
  rw [← hD] at ks ki
  have KS := Lib.hid ks
  have KI := Lib.hid ki
  clear ks ki hD
  go_enter Try.func5, Try.ntmps5
  go_wp2_with fail
  refine (szPicture_any s1 A n c _ _ hn' (by omega) (by omega)).mono ?_
  rintro e w1 ⟨rfl, hb1⟩
  rw [L1.out]
  have kc_0 := keepC (p := ⟨w.heap.size, 0, none⟩) (v := .int .i64 s1) (by first | assumption | (simp [go_sem]; done) | (simp [go_sem, *]; done)) hb1; have kc_1 := keepC (p := ⟨w.heap.size, 1, none⟩) (v := .slice A n c) (by first | assumption | (simp [go_sem]; done) | (simp [go_sem, *]; done)) hb1; have lb_ := (show w.heap.size < _ from World.block_lt_of_cell? _ _ kc_0)
  have kc1_0 := keepC (p := ⟨w.heap.size + 1, 0, none⟩) (v := .int .i64 s2) (by first | assumption | (simp [go_sem]; done) | (simp [go_sem, *]; done)) hb1; have kc1_1 := keepC (p := ⟨w.heap.size + 1, 1, none⟩) (v := .slice B m d) (by first | assumption | (simp [go_sem]; done) | (simp [go_sem, *]; done)) hb1; have lb1_ := (show w.heap.size + 1 < _ from World.block_lt_of_cell? _ _ kc1_0)
  go_wp2_with fail
  refine (szPicture_any s2 B m d _ _ hm' (by omega) (by omega)).mono ?_
  rintro e w2 ⟨rfl, hb2⟩
  rw [L2.out]
  have kc_0 := keepC (p := ⟨w.heap.size, 0, none⟩) (v := .int .i64 s1) (by first | assumption | (simp [go_sem]; done) | (simp [go_sem, *]; done)) hb2; have kc_1 := keepC (p := ⟨w.heap.size, 1, none⟩) (v := .slice A n c) (by first | assumption | (simp [go_sem]; done) | (simp [go_sem, *]; done)) hb2; have lb_ := (show w.heap.size < _ from World.block_lt_of_cell? _ _ kc_0)
  have kc1_0 := keepC (p := ⟨w.heap.size + 1, 0, none⟩) (v := .int .i64 s2) (by first | assumption | (simp [go_sem]; done) | (simp [go_sem, *]; done)) hb2; have kc1_1 := keepC (p := ⟨w.heap.size + 1, 1, none⟩) (v := .slice B m d) (by first | assumption | (simp [go_sem]; done) | (simp [go_sem, *]; done)) hb2; have lb1_ := (show w.heap.size + 1 < _ from World.block_lt_of_cell? _ _ kc1_0)
  go_wp2_with fail
  have ra := ha.step (w' := w2) (by (repeat (first | with_reducible assumption | exact Below.refl _ _ | (refine Below.setCell ?_ (by first | exact Nat.le_refl _ | (simp; done) | omega | (simp; omega)) _) | (refine below_drewN ?_ _) | (refine Below.drew ?_) | (refine Below.alloc ?_ (by first | exact Nat.le_refl _ | (simp; done) | omega | (simp; omega)) _) | (refine then_ ?_ (by with_reducible assumption)) | assumption | (refine then_ ?_ (by assumption)))))
  have rb := hb.step (w' := w2) (by (repeat (first | with_reducible assumption | exact Below.refl _ _ | (refine Below.setCell ?_ (by first | exact Nat.le_refl _ | (simp; done) | omega | (simp; omega)) _) | (refine below_drewN ?_ _) | (refine Below.drew ?_) | (refine Below.alloc ?_ (by first | exact Nat.le_refl _ | (simp; done) | omega | (simp; omega)) _) | (refine then_ ?_ (by with_reducible assumption)) | assumption | (refine then_ ?_ (by assumption)))))
  go_region_held3 (fun w' => (∀ b o, b < w2.heap.size → w'.cell? ⟨b, o, none⟩ = w2.cell? ⟨b, o, none⟩) ∧ Below w2.heap.size w2 w') (first | assumption | exact startS _ | exact stepS (by assumption) (by assumption)) (first | (go_at_call 16; (with_reducible refine (toPicture_any s1 A n c xs _ hn (ra.step ?_)).mono ?_); (repeat (first | with_reducible assumption | exact Below.refl _ _ | (refine Below.setCell ?_ (by first | exact Nat.le_refl _ | (simp; done) | omega | (simp; omega)) _) | (refine below_drewN ?_ _) | (refine Below.drew ?_) | (refine Below.alloc ?_ (by first | exact Nat.le_refl _ | (simp; done) | omega | (simp; omega)) _) | (refine then_ ?_ (by with_reducible assumption)) | assumption | (refine then_ ?_ (by assumption)))); rintro e w3 ⟨A3, rfl, ho3, hb3⟩; have r3 := Rd.of_own colC_len ha.1 ho3; clear ho3) | (go_at_call 16; (with_reducible refine (toPicture_any s2 B m d ys _ (by omega) (rb.step ?_)).mono ?_); (repeat (first | with_reducible assumption | exact Below.refl _ _ | (refine Below.setCell ?_ (by first | exact Nat.le_refl _ | (simp; done) | omega | (simp; omega)) _) | (refine below_drewN ?_ _) | (refine Below.drew ?_) | (refine Below.alloc ?_ (by first | exact Nat.le_refl _ | (simp; done) | omega | (simp; omega)) _) | (refine then_ ?_ (by with_reducible assumption)) | assumption | (refine then_ ?_ (by assumption)))); rintro e w4 ⟨B4, rfl, ho4, hb4⟩; have r4 := Rd.of_own colC_len hb.1 ho4; clear ho4) | (go_at_call 24; refine (KS.out _ _ _ _ _ (r3.step ?_) (r4.step ?_)).mono ?_; (repeat (first | with_reducible assumption | exact Below.refl _ _ | (refine Below.setCell ?_ (by first | exact Nat.le_refl _ | (simp; done) | omega | (simp; omega)) _) | (refine below_drewN ?_ _) | (refine Below.drew ?_) | (refine Below.alloc ?_ (by first | exact Nat.le_refl _ | (simp; done) | omega | (simp; omega)) _) | (refine then_ ?_ (by with_reducible assumption)) | assumption | (refine then_ ?_ (by assumption)))); rintro e w5 ⟨rfl, hb5⟩))
  have hS := ‹_ ∧ Below w2.heap.size w2 w5›
  have hW5 : Below w.heap.size w w5 := then_ (then_ (after2 hb1) hb2) hS.2
  have kc_0 := keepC (p := ⟨w.heap.size, 0, none⟩) (v := .int .i64 s1) (by first | assumption | (simp [go_sem]; done) | (simp [go_sem, *]; done)) hS.2; have kc_1 := keepC (p := ⟨w.heap.size, 1, none⟩) (v := .slice A n c) (by first | assumption | (simp [go_sem]; done) | (simp [go_sem, *]; done)) hS.2; have lb_ := (show w.heap.size < _ from World.block_lt_of_cell? _ _ kc_0)
  have kc1_0 := keepC (p := ⟨w.heap.size + 1, 0, none⟩) (v := .int .i64 s2) (by first | assumption | (simp [go_sem]; done) | (simp [go_sem, *]; done)) hS.2; have kc1_1 := keepC (p := ⟨w.heap.size + 1, 1, none⟩) (v := .slice B m d) (by first | assumption | (simp [go_sem]; done) | (simp [go_sem, *]; done)) hS.2; have lb1_ := (show w.heap.size + 1 < _ from World.block_lt_of_cell? _ _ kc1_0)
  clear hS hb1 hb2 hb3 hb4 hb5 r3 r4 ra rb
  have ra := ha.step (w' := w5) hW5
  have rb := hb.step (w' := w5) hW5
  go_wp2_with fail
  refine (toPicture_any s1 A n c xs _ hn ra).mono ?_
  rintro e w6 ⟨A6, rfl, ho6, hb6⟩
  have r6 := Rd.of_own colC_len ha.1 ho6
  clear ho6
  have kc_0 := keepC (p := ⟨w.heap.size, 0, none⟩) (v := .int .i64 s1) (by first | assumption | (simp [go_sem]; done) | (simp [go_sem, *]; done)) hb6; have kc_1 := keepC (p := ⟨w.heap.size, 1, none⟩) (v := .slice A n c) (by first | assumption | (simp [go_sem]; done) | (simp [go_sem, *]; done)) hb6; have lb_ := (show w.heap.size < _ from World.block_lt_of_cell? _ _ kc_0)
  have kc1_0 := keepC (p := ⟨w.heap.size + 1, 0, none⟩) (v := .int .i64 s2) (by first | assumption | (simp [go_sem]; done) | (simp [go_sem, *]; done)) hb6; have kc1_1 := keepC (p := ⟨w.heap.size + 1, 1, none⟩) (v := .slice B m d) (by first | assumption | (simp [go_sem]; done) | (simp [go_sem, *]; done)) hb6; have lb1_ := (show w.heap.size + 1 < _ from World.block_lt_of_cell? _ _ kc1_0)
  go_wp2_with fail
  have hW6 : Below w.heap.size w w6 := then_ hW5 hb6
  clear hb6 hW5 ra rb
  refine (toPicture_any s2 B m d ys _ (by omega) (hb.step ?_)).mono ?_
  (repeat (first | with_reducible assumption | exact Below.refl _ _ | (refine Below.setCell ?_ (by first | exact Nat.le_refl _ | (simp; done) | omega | (simp; omega)) _) | (refine below_drewN ?_ _) | (refine Below.drew ?_) | (refine Below.alloc ?_ (by first | exact Nat.le_refl _ | (simp; done) | omega | (simp; omega)) _) | (refine then_ ?_ (by with_reducible assumption)) | assumption | (refine then_ ?_ (by assumption))))
  rintro e w7 ⟨B7, rfl, ho7, hb7⟩
  have r7 := Rd.of_own colC_len hb.1 ho7
  clear ho7
  have kc_0 := keepC (p := ⟨w6.heap.size, 0, none⟩) (v := .int .i64 s1) (by first | assumption | (simp [go_sem]; done) | (simp [go_sem, *]; done)) hb7; have kc_1 := keepC (p := ⟨w6.heap.size, 1, none⟩) (v := .slice A6 n n) (by first | assumption | (simp [go_sem]; done) | (simp [go_sem, *]; done)) hb7; have lb_ := (show w6.heap.size < _ from World.block_lt_of_cell? _ _ kc_0)
  have kc_0 := keepC (p := ⟨w.heap.size, 0, none⟩) (v := .int .i64 s1) (by first | assumption | (simp [go_sem]; done) | (simp [go_sem, *]; done)) hb7; have kc_1 := keepC (p := ⟨w.heap.size, 1, none⟩) (v := .slice A n c) (by first | assumption | (simp [go_sem]; done) | (simp [go_sem, *]; done)) hb7; have lb_ := (show w.heap.size < _ from World.block_lt_of_cell? _ _ kc_0)
  have kc1_0 := keepC (p := ⟨w.heap.size + 1, 0, none⟩) (v := .int .i64 s2) (by first | assumption | (simp [go_sem]; done) | (simp [go_sem, *]; done)) hb7; have kc1_1 := keepC (p := ⟨w.heap.size + 1, 1, none⟩) (v := .slice B m d) (by first | assumption | (simp [go_sem]; done) | (simp [go_sem, *]; done)) hb7; have lb1_ := (show w.heap.size + 1 < _ from World.block_lt_of_cell? _ _ kc1_0)
  go_wp2_with fail
  refine (KI.out _ _ _ _ _ (r6.step ?_) (r7.step ?_)).mono ?_
  (repeat (first | with_reducible assumption | exact Below.refl _ _ | (refine Below.setCell ?_ (by first | exact Nat.le_refl _ | (simp; done) | omega | (simp; omega)) _) | (refine below_drewN ?_ _) | (refine Below.drew ?_) | (refine Below.alloc ?_ (by first | exact Nat.le_refl _ | (simp; done) | omega | (simp; omega)) _) | (refine then_ ?_ (by with_reducible assumption)) | assumption | (refine then_ ?_ (by assumption))))
  rintro e w8 ⟨rfl, hb8⟩
  have kc_0 := keepC (p := ⟨w6.heap.size, 0, none⟩) (v := .int .i64 s1) (by first | assumption | (simp [go_sem]; done) | (simp [go_sem, *]; done)) hb8; have kc_1 := keepC (p := ⟨w6.heap.size, 1, none⟩) (v := .slice A6 n n) (by first | assumption | (simp [go_sem]; done) | (simp [go_sem, *]; done)) hb8; have lb_ := (show w6.heap.size < _ from World.block_lt_of_cell? _ _ kc_0)
  have kc_0 := keepC (p := ⟨w7.heap.size, 0, none⟩) (v := .int .i64 s2) (by first | assumption | (simp [go_sem]; done) | (simp [go_sem, *]; done)) hb8; have kc_1 := keepC (p := ⟨w7.heap.size, 1, none⟩) (v := .slice B7 m m) (by first | assumption | (simp [go_sem]; done) | (simp [go_sem, *]; done)) hb8; have lb_ := (show w7.heap.size < _ from World.block_lt_of_cell? _ _ kc_0)
  have kc_0 := keepC (p := ⟨w.heap.size, 0, none⟩) (v := .int .i64 s1) (by first | assumption | (simp [go_sem]; done) | (simp [go_sem, *]; done)) hb8; have kc_1 := keepC (p := ⟨w.heap.size, 1, none⟩) (v := .slice A n c) (by first | assumption | (simp [go_sem]; done) | (simp [go_sem, *]; done)) hb8; have lb_ := (show w.heap.size < _ from World.block_lt_of_cell? _ _ kc_0)
  have kc1_0 := keepC (p := ⟨w.heap.size + 1, 0, none⟩) (v := .int .i64 s2) (by first | assumption | (simp [go_sem]; done) | (simp [go_sem, *]; done)) hb8; have kc1_1 := keepC (p := ⟨w.heap.size + 1, 1, none⟩) (v := .slice B m d) (by first | assumption | (simp [go_sem]; done) | (simp [go_sem, *]; done)) hb8; have lb1_ := (show w.heap.size + 1 < _ from World.block_lt_of_cell? _ _ kc1_0)
  have q6 : Rd colC 3 w8 w8.heap.size A6 n xs := r6.step (by (repeat (first | with_reducible assumption | exact Below.refl _ _ | (refine Below.setCell ?_ (by first | exact Nat.le_refl _ | (simp; done) | omega | (simp; omega)) _) | (refine below_drewN ?_ _) | (refine Below.drew ?_) | (refine Below.alloc ?_ (by first | exact Nat.le_refl _ | (simp; done) | omega | (simp; omega)) _) | (refine then_ ?_ (by with_reducible assumption)) | assumption | (refine then_ ?_ (by assumption)))))
  have q7 : Rd colC 3 w8 w8.heap.size B7 m ys := r7.step (by (repeat (first | with_reducible assumption | exact Below.refl _ _ | (refine Below.setCell ?_ (by first | exact Nat.le_refl _ | (simp; done) | omega | (simp; omega)) _) | (refine below_drewN ?_ _) | (refine Below.drew ?_) | (refine Below.alloc ?_ (by first | exact Nat.le_refl _ | (simp; done) | omega | (simp; omega)) _) | (refine then_ ?_ (by with_reducible assumption)) | assumption | (refine then_ ?_ (by assumption)))))
  have hW8 : Below w.heap.size w w8 := by (repeat (first | with_reducible assumption | exact Below.refl _ _ | (refine Below.setCell ?_ (by first | exact Nat.le_refl _ | (simp; done) | omega | (simp; omega)) _) | (refine below_drewN ?_ _) | (refine Below.drew ?_) | (refine Below.alloc ?_ (by first | exact Nat.le_refl _ | (simp; done) | omega | (simp; omega)) _) | (refine then_ ?_ (by with_reducible assumption)) | assumption | (refine then_ ?_ (by assumption))))
  clear hb7 hb8 r6 r7 hW6
  go_wp2_with (go_at_call 26; refine (sameFloat_any _ _ _ (.inl rfl)).mono ?_; rintro e w' ⟨rfl, rfl⟩)
  clear hz kd
  go_region_held3 (fun w' => (∀ b o, b < w8.heap.size → w'.cell? ⟨b, o, none⟩ = w8.cell? ⟨b, o, none⟩) ∧ Below w8.heap.size w8 w') (first | assumption | exact startS _ | exact stepS (by assumption) (by assumption)) (first | (go_at_call 16; refine (toPicture_any s1 A n c xs _ hn (ha.step ?_)).mono ?_; (repeat (first | with_reducible assumption | exact Below.refl _ _ | (refine Below.setCell ?_ (by first | exact Nat.le_refl _ | (simp; done) | omega | (simp; omega)) _) | (refine below_drewN ?_ _) | (refine Below.drew ?_) | (refine Below.alloc ?_ (by first | exact Nat.le_refl _ | (simp; done) | omega | (simp; omega)) _) | (refine then_ ?_ (by with_reducible assumption)) | assumption | (refine then_ ?_ (by assumption)))); rintro e w9 ⟨A9, rfl, ho9, hb9⟩; have r9 := Rd.of_own colC_len ha.1 ho9; clear ho9) | (go_at_call 18; refine (eqPicture_any _ _ _ _ _ _ xs _ hn' (q6.step ?_) (r9.step ?_)).mono ?_; (repeat (first | with_reducible assumption | exact Below.refl _ _ | (refine Below.setCell ?_ (by first | exact Nat.le_refl _ | (simp; done) | omega | (simp; omega)) _) | (refine below_drewN ?_ _) | (refine Below.drew ?_) | (refine Below.alloc ?_ (by first | exact Nat.le_refl _ | (simp; done) | omega | (simp; omega)) _) | (refine then_ ?_ (by with_reducible assumption)) | assumption | (refine then_ ?_ (by assumption)))); rintro e w10 ⟨rfl, hb10⟩))
  have hS := ‹_ ∧ Below w8.heap.size w8 w10›
  have hW10 : Below w.heap.size w w10 := then_ hW8 hS.2
  have kc_0 := keepC (p := ⟨w7.heap.size, 0, none⟩) (v := .int .i64 s2) (by first | assumption | (simp [go_sem]; done) | (simp [go_sem, *]; done)) hS.2; have kc_1 := keepC (p := ⟨w7.heap.size, 1, none⟩) (v := .slice B7 m m) (by first | assumption | (simp [go_sem]; done) | (simp [go_sem, *]; done)) hS.2; have lb_ := (show w7.heap.size < _ from World.block_lt_of_cell? _ _ kc_0)
  have kc1_0 := keepC (p := ⟨w.heap.size + 1, 0, none⟩) (v := .int .i64 s2) (by first | assumption | (simp [go_sem]; done) | (simp [go_sem, *]; done)) hS.2; have kc1_1 := keepC (p := ⟨w.heap.size + 1, 1, none⟩) (v := .slice B m d) (by first | assumption | (simp [go_sem]; done) | (simp [go_sem, *]; done)) hS.2; have lb1_ := (show w.heap.size + 1 < _ from World.block_lt_of_cell? _ _ kc1_0)
  have p7 : Rd colC 3 w10 w10.heap.size B7 m ys := q7.step hS.2
  clear hS q6 q7 r9 hW8
  go_wp2_with fail
  go_region_held3 (fun w' => (∀ b o, b < w10.heap.size → w'.cell? ⟨b, o, none⟩ = w10.cell? ⟨b, o, none⟩) ∧ Below w10.heap.size w10 w') (first | assumption | exact startS _ | exact stepS (by assumption) (by assumption)) (first | (go_at_call 16; refine (toPicture_any s2 B m d ys _ (by omega) (hb.step ?_)).mono ?_; (repeat (first | with_reducible assumption | exact Below.refl _ _ | (refine Below.setCell ?_ (by first | exact Nat.le_refl _ | (simp; done) | omega | (simp; omega)) _) | (refine below_drewN ?_ _) | (refine Below.drew ?_) | (refine Below.alloc ?_ (by first | exact Nat.le_refl _ | (simp; done) | omega | (simp; omega)) _) | (refine then_ ?_ (by with_reducible assumption)) | assumption | (refine then_ ?_ (by assumption)))); rintro e w11 ⟨B9, rfl, ho9, hb11⟩; have r9 := Rd.of_own colC_len hb.1 ho9; clear ho9) | (go_at_call 18; refine (eqPicture_any _ _ _ _ _ _ ys _ hm' (p7.step ?_) (r9.step ?_)).mono ?_; (repeat (first | with_reducible assumption | exact Below.refl _ _ | (refine Below.setCell ?_ (by first | exact Nat.le_refl _ | (simp; done) | omega | (simp; omega)) _) | (refine below_drewN ?_ _) | (refine Below.drew ?_) | (refine Below.alloc ?_ (by first | exact Nat.le_refl _ | (simp; done) | omega | (simp; omega)) _) | (refine then_ ?_ (by with_reducible assumption)) | assumption | (refine then_ ?_ (by assumption)))); rintro e w12 ⟨rfl, hb12⟩))
  have hS := ‹_ ∧ Below w10.heap.size w10 w12›
  have hW12 : Below w.heap.size w w12 := then_ hW10 hS.2
  go_wp2
  go_ret
  exact ⟨rfl, hW12⟩

theorem lawDiffer (A B : Option Addr) (s1 s2 : Int) (n m c d : Nat) (xs ys : List Col) (w : World) (hn : n ≤ maxLen) (hm : m ≤ maxLen) (ha : Rd colC 3 w w.heap.size A n xs) (hb : Rd colC 3 w w.heap.size B m ys) :
    Calls Try.prog 5 #[.agg #[.int .i64 s1, .slice A n c], .agg #[.int .i64 s2, .slice B m d]] w fun e w' => e = .returned (.bool true) ∧ Below w.heap.size w w' := by
  by_cases h1 : (n : Int) ≤ 1048576
  · by_cases h2 : (m : Int) ≤ 1048576 - n
    · exact lawDiffer_go A B s1 s2 n m c d xs ys w (by omega) (by omega) ha hb
    · have L1 := Lib.hid (left_yes h1)
      have L2 := Lib.hid (left_no h2)
      have hp1 : (0 : Int) ≤ 1048576 - n := by omega
      go_enter Try.func5, Try.ntmps5
      go_wp2_with fail
      refine (szPicture_any s1 A n c _ _ hn (by omega) (by omega)).mono ?_
      rintro e w1 ⟨rfl, hb1⟩
      rw [L1.out]
      have kc_0 := keepC (p := ⟨w.heap.size, 0, none⟩) (v := .int .i64 s1) (by first | assumption | (simp [go_sem]; done) | (simp [go_sem, *]; done)) hb1; have kc_1 := keepC (p := ⟨w.heap.size, 1, none⟩) (v := .slice A n c) (by first | assumption | (simp [go_sem]; done) | (simp [go_sem, *]; done)) hb1; have lb_ := (show w.heap.size < _ from World.block_lt_of_cell? _ _ kc_0)
      have kc1_0 := keepC (p := ⟨w.heap.size + 1, 0, none⟩) (v := .int .i64 s2) (by first | assumption | (simp [go_sem]; done) | (simp [go_sem, *]; done)) hb1; have kc1_1 := keepC (p := ⟨w.heap.size + 1, 1, none⟩) (v := .slice B m d) (by first | assumption | (simp [go_sem]; done) | (simp [go_sem, *]; done)) hb1; have lb1_ := (show w.heap.size + 1 < _ from World.block_lt_of_cell? _ _ kc1_0)
      go_wp2_with fail
      refine (szPicture_any s2 B m d _ _ hm (by omega) (by omega)).mono ?_
      rintro e w2 ⟨rfl, hb2⟩
      rw [L2.out]
      go_wp2
      go_ret
      exact ⟨rfl, by (repeat (first | with_reducible assumption | exact Below.refl _ _ | (refine Below.setCell ?_ (by first | exact Nat.le_refl _ | (simp; done) | omega | (simp; omega)) _) | (refine below_drewN ?_ _) | (refine Below.drew ?_) | (refine Below.alloc ?_ (by first | exact Nat.le_refl _ | (simp; done) | omega | (simp; omega)) _) | (refine then_ ?_ (by with_reducible assumption)) | assumption | (refine then_ ?_ (by assumption))))⟩
  · have L1 := Lib.hid (left_no h1)
    go_enter Try.func5, Try.ntmps5
    go_wp2_with fail
    refine (szPicture_any s1 A n c _ _ hn (by omega) (by omega)).mono ?_
    rintro e w1 ⟨rfl, hb1⟩
    rw [L1.out]
    go_wp2
    go_ret
    exact ⟨rfl, by (repeat (first | with_reducible assumption | exact Below.refl _ _ | (refine Below.setCell ?_ (by first | exact Nat.le_refl _ | (simp; done) | omega | (simp; omega)) _) | (refine below_drewN ?_ _) | (refine Below.drew ?_) | (refine Below.alloc ?_ (by first | exact Nat.le_refl _ | (simp; done) | omega | (simp; omega)) _) | (refine then_ ?_ (by with_reducible assumption)) | assumption | (refine then_ ?_ (by assumption))))⟩

namespace fnExactDifferOf
theorem cells_pic : Try.prog.cellsOf 24 = 2 := by kernel_rfl
theorem own : ownKnob Try.prog.godebug = none := by kernel_rfl
theorem laidOut : laidOutB Try.prog = true := by kernel_rfl
set_option maxRecDepth 100000 in
theorem lifted (os : Os) (started : os.Started) (H : Type) (enc : TypeId × Value → H) :
    ReturnsInHanded {} Try.checked os 5 .any (Rows.fnExactDifferOfSpec.pre6 enc Try.prog Try.f5 Rows.fnExactDifferOfRow.domain false) (Rows.fnExactDifferOfSpec.post enc Try.prog Try.f5 false true false false) := by
  refine returnsInHanded_of_change (C := Try.checked) own started (by kernel_rfl) Try.func5
    (ChangeSpec.witness6 (enc := enc) (C := Try.checked) false ⟨#[], #[.agg #[.int .i64 0, .slice none 0 0], .agg #[.int .i64 0, .slice none 0 0]], []⟩ 8 (by kernel_rfl) (by kernel_rfl) (by kernel_rfl) (by kernel_rfl)) ?_
  intro W base args ds gs before hval0 hW hcnd _
  have hval : ∀ (j : Nat) t v, Try.f5.params[j]? = some t → args[j]? = some v → Value.okWide Try.prog W .any base t v := hval0
  have hW' := hW
  obtain ⟨p, q, hA0, hV, rfl, hfz, hnd⟩ := hW
  have hA : DataW.TrodAll enc Try.prog W 0 (fun _ => true) true Try.f5.params.toList args.toList ds p := hA0
  rw [Try.params5] at hA hval
  obtain ⟨v0, vs0, d0, ds0, p0, q0, hargs, rfl, rfl, h0, r0⟩ := trodAll_cons hA
  obtain ⟨v1, vs1, d1, ds1, p1, q1, rfl, rfl, rfl, h1, r1⟩ := trodAll_cons r0
  obtain ⟨rfl, rfl, rfl⟩ := trodAll_nil r1
  obtain rfl : args = #[v0, v1] := by cases args; simp_all
  obtain ⟨rfl, rfl⟩ := trodVars_none hV
  have k0 := h0
  have lt0 : ∀ x ∈ p0, x.block < W.heap.size := by obtain ⟨m, hm⟩ := k0; exact DataW.trod_lt m _ _ _ hm
  have k1 := h1
  have lt1 : ∀ x ∈ p1, x.block < W.heap.size := by obtain ⟨m, hm⟩ := k1; exact DataW.trod_lt m _ _ _ hm
  obtain ⟨c0, c1, y0, y1, m, rfl, rfl, rfl, hy0, hy1⟩ := open_agg2 Try.underlying24 (by kernel_rfl) cells_pic (hval 0 24 v0 rfl rfl) h0
  obtain ⟨s1, e0, rfl, wa⟩ := DataW.trod_int Try.underlying3 hy0
  obtain ⟨A, n, c, xs, rfl, hn, ha⟩ := open_cols hy1
  obtain ⟨c2, c3, y2, y3, m', rfl, rfl, rfl, hy2, hy3⟩ := open_agg2 Try.underlying24 (by kernel_rfl) cells_pic (hval 1 24 v1 rfl rfl) h1
  obtain ⟨s2, e2, rfl, wb⟩ := DataW.trod_int Try.underlying3 hy2
  obtain ⟨B, n', c', ys, rfl, hn', hb⟩ := open_cols hy3
  simp at e0 e2
  subst e0 e2
  clear hA0 hval0
  refine (lawDiffer A B s1 s2 n n' c c' xs ys W hn hn' ha hb).mono fun e W' ⟨he, bel⟩ => ?_
  subst he
  exact ⟨_, rfl, _, _, _, [], _, [], hW', trodAll_mk1 (shut_bool Try.underlying4 _), (trodAll_cons_mk (Below.trod laidOut (by kernel_rfl) (of_decide_eq_true (by kernel_rfl)) k0 bel lt0) (trodAll_cons_mk (Below.trod laidOut (by kernel_rfl) (of_decide_eq_true (by kernel_rfl)) k1 bel lt1) trodAll_mk0)), rfl, bel.frame _, fun h => by cases h⟩

theorem and_mk {a b : Bool} (h : a = true) (k : b = true) : (a && b) = true := by rw [h, k]; rfl
set_option maxHeartbeats 40000000 in
theorem facts : joinedFacts Try.pinned.checked.prog 5 Try.f5 Rows.fnExactDifferOfSpec Rows.fnExactDifferOfRow = true := by
  unfold joinedFacts
  repeat (with_reducible refine and_mk ?_ ?_)
  all_goals (as_aux_lemma => kernel_rfl)
theorem named_ : Try.pinned.checked.prog.funcNamed Rows.fnExactDifferOfRow.func = some 5 := by kernel_rfl
theorem over : Rows.fnExactDifferOfRow.holds Try.pinned (OpenSpec.ofChange Rows.fnExactDifferOfSpec) :=
  OpenClaim.holds_of_wide 5 Try.f5 rfl rfl rfl rfl rfl rfl rfl ⟨rfl, rfl, rfl, rfl, rfl⟩ rfl rfl rfl rfl rfl named_ Try.func5 facts
    (of_decide_eq_true (by kernel_rfl)) (by unfold Func.isWrapper; first | (rw [if_pos (by decide +kernel)]; kernel_rfl) | (rw [if_neg (by decide +kernel)]; exact ⟨rfl, rfl⟩))
    (fun os started H enc _ => lifted os started H enc)

theorem proved : Rows.FnExactDifferOfSaid := over
end fnExactDifferOf
end Go.Proofs.Ythlkpopmoodmgaa
