
/- NewShow, both versions; eqShow, markShow, heldShow of shows without glass, beads and events. -/
import Derived.Test.YtoafldgngbaddaaM30
namespace Go.Proofs.Ytoafldgngbaddaa
open Go.RowKit
attribute [local go_sem] run_store_float run_store_complex

def madeV (kind size : Int) (step r g b : Nat) : Value := if newOk kind size step r g b then newV kind size step r g b else newV 0 0 0 0 0 0

set_option maxRecDepth 100000 in
set_option maxHeartbeats 8000000 in
theorem newShow_any (kind size : Int) (step r g b : Nat) (w : World) :
    Calls Try.prog 8 #[.int .i64 kind, .int .i64 size, .float .f32 step, .agg #[.float .f32 r, .float .f32 g, .float .f32 b]] w fun e w' => e = .returned (.tuple #[madeV kind size step r g b, .bool (newOk kind size step r g b)]) ∧ Below w.heap.size w w' := by
  have KI := Lib.hid (fun w => isShow_new kind size step r g b w)
  obtain ⟨ok, hok⟩ : ∃ ok, ok = newOk kind size step r g b := ⟨_, rfl⟩
  have MV := Lib.hid (show madeV kind size step r g b = if ok then newV kind size step r g b else newV 0 0 0 0 0 0 by rw [hok]; rfl)
  have HOK := Lib.hid hok.symm
  rw [← hok] at KI
  unfold newV at KI
  clear hok
  go_enter Try.func8, Try.ntmps8
  go_wp2_with fail
  obtain ⟨W, hWe⟩ : ∃ W, W = ((w.alloc (Obj.cells #[.float .f32 r, .float .f32 g, .float .f32 b] 25)).alloc (Obj.cells #[.int .i64 0, .float .f32 0, .float .f32 0, .float .f32 0, .float .f32 0, .slice none 0 0, .int .i64 0, .complex .f32 0 0, .float .f32 0, .slice none 0 0, .int .i64 0, .slice none 0 0] 33)).alloc (Obj.cells #[.int .i64 size, .float .f32 step, .float .f32 r, .float .f32 g, .float .f32 b, .slice none 0 0, .int .i64 kind, .complex .f32 0 0, .float .f32 0, .slice none 0 0, .int .i64 0, .slice none 0 0] 33) := ⟨_, rfl⟩
  have hW : Below w.heap.size w W := by rw [hWe]; (repeat (first | with_reducible assumption | exact Below.refl _ _ | (refine Below.setCell ?_ (by first | exact Nat.le_refl _ | (simp; done) | omega | (simp; omega)) _) | (refine below_drewN ?_ _) | (refine Below.drew ?_) | (refine Below.alloc ?_ (by first | exact Nat.le_refl _ | (simp; done) | omega | (simp; omega)) _) | (refine then_ ?_ (by with_reducible assumption)) | assumption | (refine then_ ?_ (by assumption))))
  have zW : W.heap.size = w.heap.size + 3 := by rw [hWe]; simp
  have d0 : W.cell? ⟨w.heap.size + 1, 0, none⟩ = some (.int .i64 0) := by rw [hWe]; simp [go_sem]
  have d1 : W.cell? ⟨w.heap.size + 1, 1, none⟩ = some (.float .f32 0) := by rw [hWe]; simp [go_sem]
  have d2 : W.cell? ⟨w.heap.size + 1, 2, none⟩ = some (.float .f32 0) := by rw [hWe]; simp [go_sem]
  have d3 : W.cell? ⟨w.heap.size + 1, 3, none⟩ = some (.float .f32 0) := by rw [hWe]; simp [go_sem]
  have d4 : W.cell? ⟨w.heap.size + 1, 4, none⟩ = some (.float .f32 0) := by rw [hWe]; simp [go_sem]
  have d5 : W.cell? ⟨w.heap.size + 1, 5, none⟩ = some (.slice none 0 0) := by rw [hWe]; simp [go_sem]
  have d6 : W.cell? ⟨w.heap.size + 1, 6, none⟩ = some (.int .i64 0) := by rw [hWe]; simp [go_sem]
  have d7 : W.cell? ⟨w.heap.size + 1, 7, none⟩ = some (.complex .f32 0 0) := by rw [hWe]; simp [go_sem]
  have d8 : W.cell? ⟨w.heap.size + 1, 8, none⟩ = some (.float .f32 0) := by rw [hWe]; simp [go_sem]
  have d9 : W.cell? ⟨w.heap.size + 1, 9, none⟩ = some (.slice none 0 0) := by rw [hWe]; simp [go_sem]
  have d10 : W.cell? ⟨w.heap.size + 1, 10, none⟩ = some (.int .i64 0) := by rw [hWe]; simp [go_sem]
  have d11 : W.cell? ⟨w.heap.size + 1, 11, none⟩ = some (.slice none 0 0) := by rw [hWe]; simp [go_sem]
  have s0 : W.cell? ⟨w.heap.size + 1 + 1, 0, none⟩ = some (.int .i64 size) := by rw [hWe]; simp [go_sem]
  have s1 : W.cell? ⟨w.heap.size + 1 + 1, 1, none⟩ = some (.float .f32 step) := by rw [hWe]; simp [go_sem]
  have s2 : W.cell? ⟨w.heap.size + 1 + 1, 2, none⟩ = some (.float .f32 r) := by rw [hWe]; simp [go_sem]
  have s3 : W.cell? ⟨w.heap.size + 1 + 1, 3, none⟩ = some (.float .f32 g) := by rw [hWe]; simp [go_sem]
  have s4 : W.cell? ⟨w.heap.size + 1 + 1, 4, none⟩ = some (.float .f32 b) := by rw [hWe]; simp [go_sem]
  have s5 : W.cell? ⟨w.heap.size + 1 + 1, 5, none⟩ = some (.slice none 0 0) := by rw [hWe]; simp [go_sem]
  have s6 : W.cell? ⟨w.heap.size + 1 + 1, 6, none⟩ = some (.int .i64 kind) := by rw [hWe]; simp [go_sem]
  have s7 : W.cell? ⟨w.heap.size + 1 + 1, 7, none⟩ = some (.complex .f32 0 0) := by rw [hWe]; simp [go_sem]
  have s8 : W.cell? ⟨w.heap.size + 1 + 1, 8, none⟩ = some (.float .f32 0) := by rw [hWe]; simp [go_sem]
  have s9 : W.cell? ⟨w.heap.size + 1 + 1, 9, none⟩ = some (.slice none 0 0) := by rw [hWe]; simp [go_sem]
  have s10 : W.cell? ⟨w.heap.size + 1 + 1, 10, none⟩ = some (.int .i64 0) := by rw [hWe]; simp [go_sem]
  have s11 : W.cell? ⟨w.heap.size + 1 + 1, 11, none⟩ = some (.slice none 0 0) := by rw [hWe]; simp [go_sem]
  have df : ∀ j, W.frozen? ⟨w.heap.size + 1, j, none⟩ = false := by intro j; rw [hWe]; simp [go_sem]
  have l1 : w.heap.size ≤ w.heap.size + 1 := by omega
  rw [← hWe]
  clear hWe
  (with_reducible refine (KI.out _).mono ?_)
  rintro e w1 ⟨rfl, hb1⟩
  have hW1 := then_ hW hb1
  have lb1 : w.heap.size + 1 < w1.heap.size := by have := hb1.size; omega
  have lb2 : w.heap.size + 1 + 1 < w1.heap.size := by have := hb1.size; omega
  have n12 : ¬ w.heap.size + 1 = w.heap.size + 1 + 1 := by omega
  have n21 : ¬ w.heap.size + 1 + 1 = w.heap.size + 1 := by omega
  have f0 := keepF d0 (df 0) hb1
  have f1 := keepF d1 (df 1) hb1
  have f2 := keepF d2 (df 2) hb1
  have f3 := keepF d3 (df 3) hb1
  have f4 := keepF d4 (df 4) hb1
  have f5 := keepF d5 (df 5) hb1
  have f6 := keepF d6 (df 6) hb1
  have f7 := keepF d7 (df 7) hb1
  have f8 := keepF d8 (df 8) hb1
  have f9 := keepF d9 (df 9) hb1
  have f10 := keepF d10 (df 10) hb1
  have f11 := keepF d11 (df 11) hb1
  have d0 := keepC d0 hb1
  have d1 := keepC d1 hb1
  have d2 := keepC d2 hb1
  have d3 := keepC d3 hb1
  have d4 := keepC d4 hb1
  have d5 := keepC d5 hb1
  have d6 := keepC d6 hb1
  have d7 := keepC d7 hb1
  have d8 := keepC d8 hb1
  have d9 := keepC d9 hb1
  have d10 := keepC d10 hb1
  have d11 := keepC d11 hb1
  have s0 := keepC s0 hb1
  have s1 := keepC s1 hb1
  have s2 := keepC s2 hb1
  have s3 := keepC s3 hb1
  have s4 := keepC s4 hb1
  have s5 := keepC s5 hb1
  have s6 := keepC s6 hb1
  have s7 := keepC s7 hb1
  have s8 := keepC s8 hb1
  have s9 := keepC s9 hb1
  have s10 := keepC s10 hb1
  have s11 := keepC s11 hb1
  clear hb1 hW df zW
  cases ok
  · go_wp2
    refine bodyPost_ret (v := .tuple #[newV 0 0 0 0 0 0, .bool false]) (by simp [results, Try.results8, go_sem, newV, d0, d1, d2, d3, d4, d5, d6, d7, d8, d9, d10, d11]) rfl ⟨by rw [MV.out, HOK.out]; rfl, ?_⟩
    exact (((((((((((hW1.setCell l1 _).setCell l1 _).setCell l1 _).setCell l1 _).setCell l1 _).setCell l1 _).setCell l1 _).setCell l1 _).setCell l1 _).setCell l1 _).setCell l1 _).setCell l1 _
  · go_wp2
    refine bodyPost_ret (v := .tuple #[newV kind size step r g b, .bool true]) (by simp [results, Try.results8, go_sem, newV, d0, d1, d2, d3, d4, d5, d6, d7, d8, d9, d10, d11]) rfl ⟨by rw [MV.out, HOK.out]; rfl, ?_⟩
    exact (((((((((((hW1.setCell l1 _).setCell l1 _).setCell l1 _).setCell l1 _).setCell l1 _).setCell l1 _).setCell l1 _).setCell l1 _).setCell l1 _).setCell l1 _).setCell l1 _).setCell l1 _

set_option maxRecDepth 100000 in
set_option maxHeartbeats 8000000 in
theorem specNewShow_any (kind size : Int) (step r g b : Nat) (w : World) :
    Calls Try.prog 6 #[.int .i64 kind, .int .i64 size, .float .f32 step, .agg #[.float .f32 r, .float .f32 g, .float .f32 b]] w fun e w' => e = .returned (.tuple #[madeV kind size step r g b, .bool (newOk kind size step r g b)]) ∧ Below w.heap.size w w' := by
  have KI := Lib.hid (fun w => specIsShow_new kind size step r g b w)
  obtain ⟨ok, hok⟩ : ∃ ok, ok = newOk kind size step r g b := ⟨_, rfl⟩
  have MV := Lib.hid (show madeV kind size step r g b = if ok then newV kind size step r g b else newV 0 0 0 0 0 0 by rw [hok]; rfl)
  have HOK := Lib.hid hok.symm
  rw [← hok] at KI
  unfold newV at KI
  clear hok
  go_enter Try.func6, Try.ntmps6
  go_wp2_with fail
  obtain ⟨W, hWe⟩ : ∃ W, W = ((w.alloc (Obj.cells #[.float .f32 r, .float .f32 g, .float .f32 b] 25)).alloc (Obj.cells #[.int .i64 0, .float .f32 0, .float .f32 0, .float .f32 0, .float .f32 0, .slice none 0 0, .int .i64 0, .complex .f32 0 0, .float .f32 0, .slice none 0 0, .int .i64 0, .slice none 0 0] 33)).alloc (Obj.cells #[.int .i64 size, .float .f32 step, .float .f32 r, .float .f32 g, .float .f32 b, .slice none 0 0, .int .i64 kind, .complex .f32 0 0, .float .f32 0, .slice none 0 0, .int .i64 0, .slice none 0 0] 33) := ⟨_, rfl⟩
  have hW : Below w.heap.size w W := by rw [hWe]; (repeat (first | with_reducible assumption | exact Below.refl _ _ | (refine Below.setCell ?_ (by first | exact Nat.le_refl _ | (simp; done) | omega | (simp; omega)) _) | (refine below_drewN ?_ _) | (refine Below.drew ?_) | (refine Below.alloc ?_ (by first | exact Nat.le_refl _ | (simp; done) | omega | (simp; omega)) _) | (refine then_ ?_ (by with_reducible assumption)) | assumption | (refine then_ ?_ (by assumption))))
  have zW : W.heap.size = w.heap.size + 3 := by rw [hWe]; simp
  have d0 : W.cell? ⟨w.heap.size + 1, 0, none⟩ = some (.int .i64 0) := by rw [hWe]; simp [go_sem]
  have d1 : W.cell? ⟨w.heap.size + 1, 1, none⟩ = some (.float .f32 0) := by rw [hWe]; simp [go_sem]
  have d2 : W.cell? ⟨w.heap.size + 1, 2, none⟩ = some (.float .f32 0) := by rw [hWe]; simp [go_sem]
  have d3 : W.cell? ⟨w.heap.size + 1, 3, none⟩ = some (.float .f32 0) := by rw [hWe]; simp [go_sem]
  have d4 : W.cell? ⟨w.heap.size + 1, 4, none⟩ = some (.float .f32 0) := by rw [hWe]; simp [go_sem]
  have d5 : W.cell? ⟨w.heap.size + 1, 5, none⟩ = some (.slice none 0 0) := by rw [hWe]; simp [go_sem]
  have d6 : W.cell? ⟨w.heap.size + 1, 6, none⟩ = some (.int .i64 0) := by rw [hWe]; simp [go_sem]
  have d7 : W.cell? ⟨w.heap.size + 1, 7, none⟩ = some (.complex .f32 0 0) := by rw [hWe]; simp [go_sem]
  have d8 : W.cell? ⟨w.heap.size + 1, 8, none⟩ = some (.float .f32 0) := by rw [hWe]; simp [go_sem]
  have d9 : W.cell? ⟨w.heap.size + 1, 9, none⟩ = some (.slice none 0 0) := by rw [hWe]; simp [go_sem]
  have d10 : W.cell? ⟨w.heap.size + 1, 10, none⟩ = some (.int .i64 0) := by rw [hWe]; simp [go_sem]
  have d11 : W.cell? ⟨w.heap.size + 1, 11, none⟩ = some (.slice none 0 0) := by rw [hWe]; simp [go_sem]
  have s0 : W.cell? ⟨w.heap.size + 1 + 1, 0, none⟩ = some (.int .i64 size) := by rw [hWe]; simp [go_sem]
  have s1 : W.cell? ⟨w.heap.size + 1 + 1, 1, none⟩ = some (.float .f32 step) := by rw [hWe]; simp [go_sem]
  have s2 : W.cell? ⟨w.heap.size + 1 + 1, 2, none⟩ = some (.float .f32 r) := by rw [hWe]; simp [go_sem]
  have s3 : W.cell? ⟨w.heap.size + 1 + 1, 3, none⟩ = some (.float .f32 g) := by rw [hWe]; simp [go_sem]
  have s4 : W.cell? ⟨w.heap.size + 1 + 1, 4, none⟩ = some (.float .f32 b) := by rw [hWe]; simp [go_sem]
  have s5 : W.cell? ⟨w.heap.size + 1 + 1, 5, none⟩ = some (.slice none 0 0) := by rw [hWe]; simp [go_sem]
  have s6 : W.cell? ⟨w.heap.size + 1 + 1, 6, none⟩ = some (.int .i64 kind) := by rw [hWe]; simp [go_sem]
  have s7 : W.cell? ⟨w.heap.size + 1 + 1, 7, none⟩ = some (.complex .f32 0 0) := by rw [hWe]; simp [go_sem]
  have s8 : W.cell? ⟨w.heap.size + 1 + 1, 8, none⟩ = some (.float .f32 0) := by rw [hWe]; simp [go_sem]
  have s9 : W.cell? ⟨w.heap.size + 1 + 1, 9, none⟩ = some (.slice none 0 0) := by rw [hWe]; simp [go_sem]
  have s10 : W.cell? ⟨w.heap.size + 1 + 1, 10, none⟩ = some (.int .i64 0) := by rw [hWe]; simp [go_sem]
  have s11 : W.cell? ⟨w.heap.size + 1 + 1, 11, none⟩ = some (.slice none 0 0) := by rw [hWe]; simp [go_sem]
  have df : ∀ j, W.frozen? ⟨w.heap.size + 1, j, none⟩ = false := by intro j; rw [hWe]; simp [go_sem]
  have l1 : w.heap.size ≤ w.heap.size + 1 := by omega
  rw [← hWe]
  clear hWe
  (with_reducible refine (KI.out _).mono ?_)
  rintro e w1 ⟨rfl, hb1⟩
  have hW1 := then_ hW hb1
  have lb1 : w.heap.size + 1 < w1.heap.size := by have := hb1.size; omega
  have lb2 : w.heap.size + 1 + 1 < w1.heap.size := by have := hb1.size; omega
  have n12 : ¬ w.heap.size + 1 = w.heap.size + 1 + 1 := by omega
  have n21 : ¬ w.heap.size + 1 + 1 = w.heap.size + 1 := by omega
  have f0 := keepF d0 (df 0) hb1
  have f1 := keepF d1 (df 1) hb1
  have f2 := keepF d2 (df 2) hb1
  have f3 := keepF d3 (df 3) hb1
  have f4 := keepF d4 (df 4) hb1
  have f5 := keepF d5 (df 5) hb1
  have f6 := keepF d6 (df 6) hb1
  have f7 := keepF d7 (df 7) hb1
  have f8 := keepF d8 (df 8) hb1
  have f9 := keepF d9 (df 9) hb1
  have f10 := keepF d10 (df 10) hb1
  have f11 := keepF d11 (df 11) hb1
  have d0 := keepC d0 hb1
  have d1 := keepC d1 hb1
  have d2 := keepC d2 hb1
  have d3 := keepC d3 hb1
  have d4 := keepC d4 hb1
  have d5 := keepC d5 hb1
  have d6 := keepC d6 hb1
  have d7 := keepC d7 hb1
  have d8 := keepC d8 hb1
  have d9 := keepC d9 hb1
  have d10 := keepC d10 hb1
  have d11 := keepC d11 hb1
  have s0 := keepC s0 hb1
  have s1 := keepC s1 hb1
  have s2 := keepC s2 hb1
  have s3 := keepC s3 hb1
  have s4 := keepC s4 hb1
  have s5 := keepC s5 hb1
  have s6 := keepC s6 hb1
  have s7 := keepC s7 hb1
  have s8 := keepC s8 hb1
  have s9 := keepC s9 hb1
  have s10 := keepC s10 hb1
  have s11 := keepC s11 hb1
  clear hb1 hW df zW
  cases ok
  · go_wp2
    refine bodyPost_ret (v := .tuple #[newV 0 0 0 0 0 0, .bool false]) (by simp [results, Try.results6, go_sem, newV, d0, d1, d2, d3, d4, d5, d6, d7, d8, d9, d10, d11]) rfl ⟨by rw [MV.out, HOK.out]; rfl, ?_⟩
    exact (((((((((((hW1.setCell l1 _).setCell l1 _).setCell l1 _).setCell l1 _).setCell l1 _).setCell l1 _).setCell l1 _).setCell l1 _).setCell l1 _).setCell l1 _).setCell l1 _).setCell l1 _
  · go_wp2
    refine bodyPost_ret (v := .tuple #[newV kind size step r g b, .bool true]) (by simp [results, Try.results6, go_sem, newV, d0, d1, d2, d3, d4, d5, d6, d7, d8, d9, d10, d11]) rfl ⟨by rw [MV.out, HOK.out]; rfl, ?_⟩
    exact (((((((((((hW1.setCell l1 _).setCell l1 _).setCell l1 _).setCell l1 _).setCell l1 _).setCell l1 _).setCell l1 _).setCell l1 _).setCell l1 _).setCell l1 _).setCell l1 _).setCell l1 _

/-! ### shows held against each other -/
set_option maxHeartbeats 4000000 in
theorem eqTumble_bare (kind : Int) (w : World) :
    Calls Try.prog 23 #[bareV kind, bareV kind] w fun e w' => e = .returned (.bool true) ∧ Below w.heap.size w w' := by
  unfold bareV
  have kc := fun wx => run_conv128 (P := Try.prog) 27 76 0 0 (by kernel_rfl) Try.underlying76 wx
  have kl := fun wx => run_conv64 (P := Try.prog) 22 54 0 (by kernel_rfl) Try.underlying54 wx
  have hk : (kind != kind) = false := by simp
  go_enter Try.func23, Try.ntmps23
  go_wp2_with (first
    | (go_at_call 54; refine (sameComplex_any _ _ _ _ _ (cvB_same _ _ _) (cvB_same _ _ _)).mono ?_; rintro e w' ⟨rfl, rfl⟩)
    | (go_at_call 20; refine (sameFloat_any _ _ _ (cvB_same _ _ _)).mono ?_; rintro e w' ⟨rfl, rfl⟩)
    | (go_at_call 55; (with_reducible refine (eqBeadS_nil _).mono ?_); rintro e w' ⟨rfl, rfl⟩))
  go_ret
  exact ⟨rfl, by (repeat (first | with_reducible assumption | exact Below.refl _ _ | (refine Below.setCell ?_ (by first | exact Nat.le_refl _ | (simp; done) | omega | (simp; omega)) _) | (refine below_drewN ?_ _) | (refine Below.drew ?_) | (refine Below.alloc ?_ (by first | exact Nat.le_refl _ | (simp; done) | omega | (simp; omega)) _) | (refine then_ ?_ (by with_reducible assumption)) | assumption | (refine then_ ?_ (by assumption))))⟩

theorem made_new (kind size : Int) (step r g b : Nat) : ∃ (k s : Int) (t r' g' b' : Nat), madeV kind size step r g b = newV k s t r' g' b' := by
  unfold madeV
  split
  · exact ⟨_, _, _, _, _, _, rfl⟩
  · exact ⟨_, _, _, _, _, _, rfl⟩
theorem markTumble_bare (kind k : Int) (w : World) :
    Calls Try.prog 26 #[bareV kind, .int .i64 k] w fun e w' => e = .returned (.int .i64 k) ∧ Below w.heap.size w w' := by
  unfold bareV
  go_enter Try.func26, Try.ntmps26
  go_wp2_with (go_at_call 57; (with_reducible refine (markBeadS_nil _ k).mono ?_); rintro e w' ⟨rfl, rfl⟩)
  go_ret
  exact ⟨rfl, by (repeat (first | with_reducible assumption | exact Below.refl _ _ | (refine Below.setCell ?_ (by first | exact Nat.le_refl _ | (simp; done) | omega | (simp; omega)) _) | (refine below_drewN ?_ _) | (refine Below.drew ?_) | (refine Below.alloc ?_ (by first | exact Nat.le_refl _ | (simp; done) | omega | (simp; omega)) _) | (refine then_ ?_ (by with_reducible assumption)) | assumption | (refine then_ ?_ (by assumption))))⟩
theorem heldTumble_bare (kind : Int) (k : Nat) (w : World) :
    Calls Try.prog 29 #[bareV kind, .int .i64 k] w fun e w' => e = .returned (.int .i64 k) ∧ Below w.heap.size w w' := by
  unfold bareV
  have hk : decide ((k : Int) < 0) = false := by simp
  go_enter Try.func29, Try.ntmps29
  go_wp2_with (go_at_call 58; (with_reducible refine (heldBeadS_nil _ k).mono ?_); rintro e w' ⟨rfl, rfl⟩)
  go_ret
  exact ⟨rfl, by (repeat (first | with_reducible assumption | exact Below.refl _ _ | (refine Below.setCell ?_ (by first | exact Nat.le_refl _ | (simp; done) | omega | (simp; omega)) _) | (refine below_drewN ?_ _) | (refine Below.drew ?_) | (refine Below.alloc ?_ (by first | exact Nat.le_refl _ | (simp; done) | omega | (simp; omega)) _) | (refine then_ ?_ (by with_reducible assumption)) | assumption | (refine then_ ?_ (by assumption))))⟩

set_option maxRecDepth 100000 in
set_option maxHeartbeats 8000000 in
theorem eqShow_new (kind size : Int) (step r g b : Nat) (w : World) :
    Calls Try.prog 9 #[newV kind size step r g b, newV kind size step r g b] w fun e w' => e = .returned (.bool true) ∧ Below w.heap.size w w' := by
  unfold newV
  have kl := fun wx => run_conv64 (P := Try.prog) 22 54 step (by kernel_rfl) Try.underlying54 wx
  have hs : (size != size) = false := by simp
  have KT := Lib.hid (fun w => eqTumble_bare kind w)
  unfold bareV at KT
  go_enter Try.func9, Try.ntmps9
  go_wp2_with (first
    | (go_at_call 20; refine (sameFloat_any _ _ _ (cvB_same _ _ _)).mono ?_; rintro e w' ⟨rfl, rfl⟩)
    | (go_at_call 21; (with_reducible refine (eqColour_any r g b _).mono ?_); rintro e w1 ⟨rfl, hb⟩; have kc_0 := keepC (p := ⟨w.heap.size, 0, none⟩) (v := .int .i64 size) (by first | assumption | (simp [go_sem]; done) | (simp [go_sem, *]; done)) hb; have kc_1 := keepC (p := ⟨w.heap.size, 1, none⟩) (v := .float .f32 step) (by first | assumption | (simp [go_sem]; done) | (simp [go_sem, *]; done)) hb; have kc_2 := keepC (p := ⟨w.heap.size, 2, none⟩) (v := .float .f32 r) (by first | assumption | (simp [go_sem]; done) | (simp [go_sem, *]; done)) hb; have kc_3 := keepC (p := ⟨w.heap.size, 3, none⟩) (v := .float .f32 g) (by first | assumption | (simp [go_sem]; done) | (simp [go_sem, *]; done)) hb; have kc_4 := keepC (p := ⟨w.heap.size, 4, none⟩) (v := .float .f32 b) (by first | assumption | (simp [go_sem]; done) | (simp [go_sem, *]; done)) hb; have kc_5 := keepC (p := ⟨w.heap.size, 5, none⟩) (v := .slice none 0 0) (by first | assumption | (simp [go_sem]; done) | (simp [go_sem, *]; done)) hb; have kc_6 := keepC (p := ⟨w.heap.size, 6, none⟩) (v := .int .i64 kind) (by first | assumption | (simp [go_sem]; done) | (simp [go_sem, *]; done)) hb; have kc_7 := keepC (p := ⟨w.heap.size, 7, none⟩) (v := .complex .f32 0 0) (by first | assumption | (simp [go_sem]; done) | (simp [go_sem, *]; done)) hb; have kc_8 := keepC (p := ⟨w.heap.size, 8, none⟩) (v := .float .f32 0) (by first | assumption | (simp [go_sem]; done) | (simp [go_sem, *]; done)) hb; have kc_9 := keepC (p := ⟨w.heap.size, 9, none⟩) (v := .slice none 0 0) (by first | assumption | (simp [go_sem]; done) | (simp [go_sem, *]; done)) hb; have kc_10 := keepC (p := ⟨w.heap.size, 10, none⟩) (v := .int .i64 0) (by first | assumption | (simp [go_sem]; done) | (simp [go_sem, *]; done)) hb; have kc_11 := keepC (p := ⟨w.heap.size, 11, none⟩) (v := .slice none 0 0) (by first | assumption | (simp [go_sem]; done) | (simp [go_sem, *]; done)) hb; have lb_ := (show w.heap.size < _ from World.block_lt_of_cell? _ _ kc_0); have kc1_0 := keepC (p := ⟨w.heap.size + 1, 0, none⟩) (v := .int .i64 size) (by first | assumption | (simp [go_sem]; done) | (simp [go_sem, *]; done)) hb; have kc1_1 := keepC (p := ⟨w.heap.size + 1, 1, none⟩) (v := .float .f32 step) (by first | assumption | (simp [go_sem]; done) | (simp [go_sem, *]; done)) hb; have kc1_2 := keepC (p := ⟨w.heap.size + 1, 2, none⟩) (v := .float .f32 r) (by first | assumption | (simp [go_sem]; done) | (simp [go_sem, *]; done)) hb; have kc1_3 := keepC (p := ⟨w.heap.size + 1, 3, none⟩) (v := .float .f32 g) (by first | assumption | (simp [go_sem]; done) | (simp [go_sem, *]; done)) hb; have kc1_4 := keepC (p := ⟨w.heap.size + 1, 4, none⟩) (v := .float .f32 b) (by first | assumption | (simp [go_sem]; done) | (simp [go_sem, *]; done)) hb; have kc1_5 := keepC (p := ⟨w.heap.size + 1, 5, none⟩) (v := .slice none 0 0) (by first | assumption | (simp [go_sem]; done) | (simp [go_sem, *]; done)) hb; have kc1_6 := keepC (p := ⟨w.heap.size + 1, 6, none⟩) (v := .int .i64 kind) (by first | assumption | (simp [go_sem]; done) | (simp [go_sem, *]; done)) hb; have kc1_7 := keepC (p := ⟨w.heap.size + 1, 7, none⟩) (v := .complex .f32 0 0) (by first | assumption | (simp [go_sem]; done) | (simp [go_sem, *]; done)) hb; have kc1_8 := keepC (p := ⟨w.heap.size + 1, 8, none⟩) (v := .float .f32 0) (by first | assumption | (simp [go_sem]; done) | (simp [go_sem, *]; done)) hb; have kc1_9 := keepC (p := ⟨w.heap.size + 1, 9, none⟩) (v := .slice none 0 0) (by first | assumption | (simp [go_sem]; done) | (simp [go_sem, *]; done)) hb; have kc1_10 := keepC (p := ⟨w.heap.size + 1, 10, none⟩) (v := .int .i64 0) (by first | assumption | (simp [go_sem]; done) | (simp [go_sem, *]; done)) hb; have kc1_11 := keepC (p := ⟨w.heap.size + 1, 11, none⟩) (v := .slice none 0 0) (by first | assumption | (simp [go_sem]; done) | (simp [go_sem, *]; done)) hb; have lb1_ := (show w.heap.size + 1 < _ from World.block_lt_of_cell? _ _ kc1_0))
    | (go_at_call 22; (with_reducible refine (eqShardS_nil _).mono ?_); rintro e w' ⟨rfl, rfl⟩)
    | (go_at_call 23; (with_reducible refine (KT.out _).mono ?_); rintro e w2 ⟨rfl, hb⟩; have kc_0 := keepC (p := ⟨w.heap.size, 0, none⟩) (v := .int .i64 size) (by first | assumption | (simp [go_sem]; done) | (simp [go_sem, *]; done)) hb; have kc_1 := keepC (p := ⟨w.heap.size, 1, none⟩) (v := .float .f32 step) (by first | assumption | (simp [go_sem]; done) | (simp [go_sem, *]; done)) hb; have kc_2 := keepC (p := ⟨w.heap.size, 2, none⟩) (v := .float .f32 r) (by first | assumption | (simp [go_sem]; done) | (simp [go_sem, *]; done)) hb; have kc_3 := keepC (p := ⟨w.heap.size, 3, none⟩) (v := .float .f32 g) (by first | assumption | (simp [go_sem]; done) | (simp [go_sem, *]; done)) hb; have kc_4 := keepC (p := ⟨w.heap.size, 4, none⟩) (v := .float .f32 b) (by first | assumption | (simp [go_sem]; done) | (simp [go_sem, *]; done)) hb; have kc_5 := keepC (p := ⟨w.heap.size, 5, none⟩) (v := .slice none 0 0) (by first | assumption | (simp [go_sem]; done) | (simp [go_sem, *]; done)) hb; have kc_6 := keepC (p := ⟨w.heap.size, 6, none⟩) (v := .int .i64 kind) (by first | assumption | (simp [go_sem]; done) | (simp [go_sem, *]; done)) hb; have kc_7 := keepC (p := ⟨w.heap.size, 7, none⟩) (v := .complex .f32 0 0) (by first | assumption | (simp [go_sem]; done) | (simp [go_sem, *]; done)) hb; have kc_8 := keepC (p := ⟨w.heap.size, 8, none⟩) (v := .float .f32 0) (by first | assumption | (simp [go_sem]; done) | (simp [go_sem, *]; done)) hb; have kc_9 := keepC (p := ⟨w.heap.size, 9, none⟩) (v := .slice none 0 0) (by first | assumption | (simp [go_sem]; done) | (simp [go_sem, *]; done)) hb; have kc_10 := keepC (p := ⟨w.heap.size, 10, none⟩) (v := .int .i64 0) (by first | assumption | (simp [go_sem]; done) | (simp [go_sem, *]; done)) hb; have kc_11 := keepC (p := ⟨w.heap.size, 11, none⟩) (v := .slice none 0 0) (by first | assumption | (simp [go_sem]; done) | (simp [go_sem, *]; done)) hb; have lb_ := (show w.heap.size < _ from World.block_lt_of_cell? _ _ kc_0); have kc1_0 := keepC (p := ⟨w.heap.size + 1, 0, none⟩) (v := .int .i64 size) (by first | assumption | (simp [go_sem]; done) | (simp [go_sem, *]; done)) hb; have kc1_1 := keepC (p := ⟨w.heap.size + 1, 1, none⟩) (v := .float .f32 step) (by first | assumption | (simp [go_sem]; done) | (simp [go_sem, *]; done)) hb; have kc1_2 := keepC (p := ⟨w.heap.size + 1, 2, none⟩) (v := .float .f32 r) (by first | assumption | (simp [go_sem]; done) | (simp [go_sem, *]; done)) hb; have kc1_3 := keepC (p := ⟨w.heap.size + 1, 3, none⟩) (v := .float .f32 g) (by first | assumption | (simp [go_sem]; done) | (simp [go_sem, *]; done)) hb; have kc1_4 := keepC (p := ⟨w.heap.size + 1, 4, none⟩) (v := .float .f32 b) (by first | assumption | (simp [go_sem]; done) | (simp [go_sem, *]; done)) hb; have kc1_5 := keepC (p := ⟨w.heap.size + 1, 5, none⟩) (v := .slice none 0 0) (by first | assumption | (simp [go_sem]; done) | (simp [go_sem, *]; done)) hb; have kc1_6 := keepC (p := ⟨w.heap.size + 1, 6, none⟩) (v := .int .i64 kind) (by first | assumption | (simp [go_sem]; done) | (simp [go_sem, *]; done)) hb; have kc1_7 := keepC (p := ⟨w.heap.size + 1, 7, none⟩) (v := .complex .f32 0 0) (by first | assumption | (simp [go_sem]; done) | (simp [go_sem, *]; done)) hb; have kc1_8 := keepC (p := ⟨w.heap.size + 1, 8, none⟩) (v := .float .f32 0) (by first | assumption | (simp [go_sem]; done) | (simp [go_sem, *]; done)) hb; have kc1_9 := keepC (p := ⟨w.heap.size + 1, 9, none⟩) (v := .slice none 0 0) (by first | assumption | (simp [go_sem]; done) | (simp [go_sem, *]; done)) hb; have kc1_10 := keepC (p := ⟨w.heap.size + 1, 10, none⟩) (v := .int .i64 0) (by first | assumption | (simp [go_sem]; done) | (simp [go_sem, *]; done)) hb; have kc1_11 := keepC (p := ⟨w.heap.size + 1, 11, none⟩) (v := .slice none 0 0) (by first | assumption | (simp [go_sem]; done) | (simp [go_sem, *]; done)) hb; have lb1_ := (show w.heap.size + 1 < _ from World.block_lt_of_cell? _ _ kc1_0))
    | (go_at_call 24; (with_reducible refine (eqEventS_nil _).mono ?_); rintro e w' ⟨rfl, rfl⟩))
  go_ret
  exact ⟨rfl, by (repeat (first | with_reducible assumption | exact Below.refl _ _ | (refine Below.setCell ?_ (by first | exact Nat.le_refl _ | (simp; done) | omega | (simp; omega)) _) | (refine below_drewN ?_ _) | (refine Below.drew ?_) | (refine Below.alloc ?_ (by first | exact Nat.le_refl _ | (simp; done) | omega | (simp; omega)) _) | (refine then_ ?_ (by with_reducible assumption)) | assumption | (refine then_ ?_ (by assumption))))⟩
set_option maxRecDepth 100000 in
set_option maxHeartbeats 4000000 in
theorem markShow_new (kind size : Int) (step r g b : Nat) (k : Int) (w : World) :
    Calls Try.prog 10 #[newV kind size step r g b, .int .i64 k] w fun e w' => e = .returned (.int .i64 k) ∧ Below w.heap.size w w' := by
  unfold newV
  have KT := Lib.hid (fun w => markTumble_bare kind k w)
  unfold bareV at KT
  go_enter Try.func10, Try.ntmps10
  go_wp2_with (first
    | (go_at_call 25; (with_reducible refine (markShardS_nil _ k).mono ?_); rintro e w' ⟨rfl, rfl⟩)
    | (go_at_call 26; (with_reducible refine (KT.out _).mono ?_); rintro e w2 ⟨rfl, hb⟩; have kc_0 := keepC (p := ⟨w.heap.size, 0, none⟩) (v := .int .i64 size) (by first | assumption | (simp [go_sem]; done) | (simp [go_sem, *]; done)) hb; have kc_1 := keepC (p := ⟨w.heap.size, 1, none⟩) (v := .float .f32 step) (by first | assumption | (simp [go_sem]; done) | (simp [go_sem, *]; done)) hb; have kc_2 := keepC (p := ⟨w.heap.size, 2, none⟩) (v := .float .f32 r) (by first | assumption | (simp [go_sem]; done) | (simp [go_sem, *]; done)) hb; have kc_3 := keepC (p := ⟨w.heap.size, 3, none⟩) (v := .float .f32 g) (by first | assumption | (simp [go_sem]; done) | (simp [go_sem, *]; done)) hb; have kc_4 := keepC (p := ⟨w.heap.size, 4, none⟩) (v := .float .f32 b) (by first | assumption | (simp [go_sem]; done) | (simp [go_sem, *]; done)) hb; have kc_5 := keepC (p := ⟨w.heap.size, 5, none⟩) (v := .slice none 0 0) (by first | assumption | (simp [go_sem]; done) | (simp [go_sem, *]; done)) hb; have kc_6 := keepC (p := ⟨w.heap.size, 6, none⟩) (v := .int .i64 kind) (by first | assumption | (simp [go_sem]; done) | (simp [go_sem, *]; done)) hb; have kc_7 := keepC (p := ⟨w.heap.size, 7, none⟩) (v := .complex .f32 0 0) (by first | assumption | (simp [go_sem]; done) | (simp [go_sem, *]; done)) hb; have kc_8 := keepC (p := ⟨w.heap.size, 8, none⟩) (v := .float .f32 0) (by first | assumption | (simp [go_sem]; done) | (simp [go_sem, *]; done)) hb; have kc_9 := keepC (p := ⟨w.heap.size, 9, none⟩) (v := .slice none 0 0) (by first | assumption | (simp [go_sem]; done) | (simp [go_sem, *]; done)) hb; have kc_10 := keepC (p := ⟨w.heap.size, 10, none⟩) (v := .int .i64 0) (by first | assumption | (simp [go_sem]; done) | (simp [go_sem, *]; done)) hb; have kc_11 := keepC (p := ⟨w.heap.size, 11, none⟩) (v := .slice none 0 0) (by first | assumption | (simp [go_sem]; done) | (simp [go_sem, *]; done)) hb; have lb_ := (show w.heap.size < _ from World.block_lt_of_cell? _ _ kc_0))
    | (go_at_call 27; (with_reducible refine (markEventS_nil _ k).mono ?_); rintro e w' ⟨rfl, rfl⟩))
  go_ret
  exact ⟨rfl, by (repeat (first | with_reducible assumption | exact Below.refl _ _ | (refine Below.setCell ?_ (by first | exact Nat.le_refl _ | (simp; done) | omega | (simp; omega)) _) | (refine below_drewN ?_ _) | (refine Below.drew ?_) | (refine Below.alloc ?_ (by first | exact Nat.le_refl _ | (simp; done) | omega | (simp; omega)) _) | (refine then_ ?_ (by with_reducible assumption)) | assumption | (refine then_ ?_ (by assumption))))⟩
set_option maxRecDepth 100000 in
set_option maxHeartbeats 4000000 in
theorem heldShow_new (kind size : Int) (step r g b : Nat) (k : Nat) (w : World) :
    Calls Try.prog 11 #[newV kind size step r g b, .int .i64 k] w fun e w' => e = .returned (.int .i64 k) ∧ Below w.heap.size w w' := by
  unfold newV
  have hk : decide ((k : Int) < 0) = false := by simp
  have KT := Lib.hid (fun w => heldTumble_bare kind k w)
  unfold bareV at KT
  go_enter Try.func11, Try.ntmps11
  go_wp2_with (first
    | (go_at_call 28; (with_reducible refine (heldShardS_nil _ k).mono ?_); rintro e w' ⟨rfl, rfl⟩)
    | (go_at_call 29; (with_reducible refine (KT.out _).mono ?_); rintro e w2 ⟨rfl, hb⟩; have kc_0 := keepC (p := ⟨w.heap.size, 0, none⟩) (v := .int .i64 size) (by first | assumption | (simp [go_sem]; done) | (simp [go_sem, *]; done)) hb; have kc_1 := keepC (p := ⟨w.heap.size, 1, none⟩) (v := .float .f32 step) (by first | assumption | (simp [go_sem]; done) | (simp [go_sem, *]; done)) hb; have kc_2 := keepC (p := ⟨w.heap.size, 2, none⟩) (v := .float .f32 r) (by first | assumption | (simp [go_sem]; done) | (simp [go_sem, *]; done)) hb; have kc_3 := keepC (p := ⟨w.heap.size, 3, none⟩) (v := .float .f32 g) (by first | assumption | (simp [go_sem]; done) | (simp [go_sem, *]; done)) hb; have kc_4 := keepC (p := ⟨w.heap.size, 4, none⟩) (v := .float .f32 b) (by first | assumption | (simp [go_sem]; done) | (simp [go_sem, *]; done)) hb; have kc_5 := keepC (p := ⟨w.heap.size, 5, none⟩) (v := .slice none 0 0) (by first | assumption | (simp [go_sem]; done) | (simp [go_sem, *]; done)) hb; have kc_6 := keepC (p := ⟨w.heap.size, 6, none⟩) (v := .int .i64 kind) (by first | assumption | (simp [go_sem]; done) | (simp [go_sem, *]; done)) hb; have kc_7 := keepC (p := ⟨w.heap.size, 7, none⟩) (v := .complex .f32 0 0) (by first | assumption | (simp [go_sem]; done) | (simp [go_sem, *]; done)) hb; have kc_8 := keepC (p := ⟨w.heap.size, 8, none⟩) (v := .float .f32 0) (by first | assumption | (simp [go_sem]; done) | (simp [go_sem, *]; done)) hb; have kc_9 := keepC (p := ⟨w.heap.size, 9, none⟩) (v := .slice none 0 0) (by first | assumption | (simp [go_sem]; done) | (simp [go_sem, *]; done)) hb; have kc_10 := keepC (p := ⟨w.heap.size, 10, none⟩) (v := .int .i64 0) (by first | assumption | (simp [go_sem]; done) | (simp [go_sem, *]; done)) hb; have kc_11 := keepC (p := ⟨w.heap.size, 11, none⟩) (v := .slice none 0 0) (by first | assumption | (simp [go_sem]; done) | (simp [go_sem, *]; done)) hb; have lb_ := (show w.heap.size < _ from World.block_lt_of_cell? _ _ kc_0))
    | (go_at_call 30; (with_reducible refine (heldEventS_nil _ k).mono ?_); rintro e w' ⟨rfl, rfl⟩))
  go_ret
  exact ⟨rfl, by (repeat (first | with_reducible assumption | exact Below.refl _ _ | (refine Below.setCell ?_ (by first | exact Nat.le_refl _ | (simp; done) | omega | (simp; omega)) _) | (refine below_drewN ?_ _) | (refine Below.drew ?_) | (refine Below.alloc ?_ (by first | exact Nat.le_refl _ | (simp; done) | omega | (simp; omega)) _) | (refine then_ ?_ (by with_reducible assumption)) | assumption | (refine then_ ?_ (by assumption))))⟩
end Go.Proofs.Ytoafldgngbaddaa
