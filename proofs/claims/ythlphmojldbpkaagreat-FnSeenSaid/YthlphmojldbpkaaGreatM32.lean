/- NewS3 · DrawS · SameSh -/
import Derived.Test.YthlphmojldbpkaaGreatM29
import Derived.Test.YthlphmojldbpkaaGreatDrawEv
import Derived.Test.YthlphmojldbpkaaGreatM6
import Derived.Test.YthlphmojldbpkaaGreatDoS
import Derived.Deep.CutRange
import Derived.Test.YthlphmojldbpkaaGreatM15
import Derived.Test.YthlphmojldbpkaaGreatM21
import Derived.Test.YthlphmojldbpkaaGreatM3
import Derived.Test.YthlphmojldbpkaaGreatM28
import Derived.Test.YthlphmojldbpkaaGreatM8

/- NewShow, both versions; eqShow, markShow, heldShow of shows without glass, beads and events. -/
namespace Go.Proofs.YthlphmojldbpkaaGreat
open Go.RowKit
attribute [local go_sem] run_store_float run_store_complex

def madeV (kind size : Int) (step r g b : Nat) : Value := if newOk kind size step r g b then newV kind size step r g b else newV 0 0 0 0 0 0

set_option maxRecDepth 100000 in
set_option maxHeartbeats 8000000 in
theorem newShow_any (kind size : Int) (step r g b : Nat) (w : World) :
    Calls Tryz.prog 34 #[.int .i64 kind, .int .i64 size, .float .f32 step, .agg #[.float .f32 r, .float .f32 g, .float .f32 b]] w fun e w' => e = .returned (.tuple #[madeV kind size step r g b, .bool (newOk kind size step r g b)]) ∧ Below w.heap.size w w' := by
  have KI := Lib.hid (fun w => isShow_new kind size step r g b w)
  obtain ⟨ok, hok⟩ : ∃ ok, ok = newOk kind size step r g b := ⟨_, rfl⟩
  have MV := Lib.hid (show madeV kind size step r g b = if ok then newV kind size step r g b else newV 0 0 0 0 0 0 by rw [hok]; rfl)
  have HOK := Lib.hid hok.symm
  rw [← hok] at KI
  unfold newV at KI
  clear hok
  go_enter Tryz.func34, Tryz.ntmps34
  go_wp2_with fail
  obtain ⟨W, hWe⟩ : ∃ W, W = ((w.alloc (Obj.cells #[.float .f32 r, .float .f32 g, .float .f32 b] 26)).alloc (Obj.cells #[.int .i64 0, .float .f32 0, .float .f32 0, .float .f32 0, .float .f32 0, .slice none 0 0, .int .i64 0, .complex .f32 0 0, .float .f32 0, .slice none 0 0, .int .i64 0, .slice none 0 0] 34)).alloc (Obj.cells #[.int .i64 size, .float .f32 step, .float .f32 r, .float .f32 g, .float .f32 b, .slice none 0 0, .int .i64 kind, .complex .f32 0 0, .float .f32 0, .slice none 0 0, .int .i64 0, .slice none 0 0] 34) := ⟨_, rfl⟩
  have hW : Below w.heap.size w W := by rw [hWe]; (repeat (first | with_reducible assumption | exact Below.refl _ _ | (refine Below.setCell ?_ (by first | exact Nat.le_refl _ | (simp; done) | omega | (simp; omega)) _) | (refine below_drewN ?_ _) | (refine Below.drew ?_) | (refine Below.alloc ?_ (by first | exact Nat.le_refl _ | (simp; done) | omega | (simp; omega)) _) | (refine then_ ?_ (by with_reducible assumption)) | assumption | (refine then_ ?_ (by assumption))))
  have zW : W.heap.size = w.heap.size + 3 := by rw [hWe]; simp
  have d0 : W.cell? ⟨w.heap.size + 1, 0, none⟩ = some (.int .i64 0) := by rw [hWe]; simp [go_sem]
  have d1 : W.cell? ⟨w.heap.size + 1, 1, none⟩ = some (.float .f32 0) := by rw [hWe]; simp [go_sem]
  have d2 : W.cell? ⟨w.heap.size + 1, 2, none⟩ = some (.float .f32 0) := by rw [hWe]; simp [go_sem]
  have d3 : W.cell? ⟨w.heap.size + 1, 3, none⟩ = some (.float .f32 0) := by rw [hWe]; simp [go_sem]
  have d4 : W.cell? ⟨w.heap.size + 1, 4, none⟩ = some (.float .f32 0) := by rw [hWe]; simp [go_sem]
  have d5 : W.cell? ⟨w.heap.size + 1, 5, none⟩ = some (.slice none 0 0) := by rw [hWe]; simp [go_sem]
  have d6 : W.cell? ⟨w.heap.size + 1, 6, none⟩ = some (.int .i64 0) := by rw [hWe]; simp [go_sem]
  have d7 : W.cell? ⟨w.heap.size + 1, 7, none⟩ = some (.complex .f32 0 0) := by rw [hWe]; simp [go_sem]
  have d8 : W.cell? ⟨w.heap.size + 1, 8, none⟩ = some (.float .f32 0) := by rw [hWe]; simp [go_sem]
  have d9 : W.cell? ⟨w.heap.size + 1, 9, none⟩ = some (.slice none 0 0) := by rw [hWe]; simp [go_sem]
  have d10 : W.cell? ⟨w.heap.size + 1, 10, none⟩ = some (.int .i64 0) := by rw [hWe]; simp [go_sem]
  have d11 : W.cell? ⟨w.heap.size + 1, 11, none⟩ = some (.slice none 0 0) := by rw [hWe]; simp [go_sem]
  have s0 : W.cell? ⟨w.heap.size + 1 + 1, 0, none⟩ = some (.int .i64 size) := by rw [hWe]; simp [go_sem]
  have s1 : W.cell? ⟨w.heap.size + 1 + 1, 1, none⟩ = some (.float .f32 step) := by rw [hWe]; simp [go_sem]
  have s2 : W.cell? ⟨w.heap.size + 1 + 1, 2, none⟩ = some (.float .f32 r) := by rw [hWe]; simp [go_sem]
  have s3 : W.cell? ⟨w.heap.size + 1 + 1, 3, none⟩ = some (.float .f32 g) := by rw [hWe]; simp [go_sem]
  have s4 : W.cell? ⟨w.heap.size + 1 + 1, 4, none⟩ = some (.float .f32 b) := by rw [hWe]; simp [go_sem]
  have s5 : W.cell? ⟨w.heap.size + 1 + 1, 5, none⟩ = some (.slice none 0 0) := by rw [hWe]; simp [go_sem]
  have s6 : W.cell? ⟨w.heap.size + 1 + 1, 6, none⟩ = some (.int .i64 kind) := by rw [hWe]; simp [go_sem]
  have s7 : W.cell? ⟨w.heap.size + 1 + 1, 7, none⟩ = some (.complex .f32 0 0) := by rw [hWe]; simp [go_sem]
  have s8 : W.cell? ⟨w.heap.size + 1 + 1, 8, none⟩ = some (.float .f32 0) := by rw [hWe]; simp [go_sem]
  have s9 : W.cell? ⟨w.heap.size + 1 + 1, 9, none⟩ = some (.slice none 0 0) := by rw [hWe]; simp [go_sem]
  have s10 : W.cell? ⟨w.heap.size + 1 + 1, 10, none⟩ = some (.int .i64 0) := by rw [hWe]; simp [go_sem]
  have s11 : W.cell? ⟨w.heap.size + 1 + 1, 11, none⟩ = some (.slice none 0 0) := by rw [hWe]; simp [go_sem]
  have df : ∀ j, W.frozen? ⟨w.heap.size + 1, j, none⟩ = false := by intro j; rw [hWe]; simp [go_sem]
  have l1 : w.heap.size ≤ w.heap.size + 1 := by omega
  rw [← hWe]
  clear hWe
  (with_reducible refine (KI.out _).mono ?_)
  rintro e w1 ⟨rfl, hb1⟩
  have hW1 := then_ hW hb1
  have lb1 : w.heap.size + 1 < w1.heap.size := by have := hb1.size; omega
  have lb2 : w.heap.size + 1 + 1 < w1.heap.size := by have := hb1.size; omega
  have n12 : ¬ w.heap.size + 1 = w.heap.size + 1 + 1 := by omega
  have n21 : ¬ w.heap.size + 1 + 1 = w.heap.size + 1 := by omega
  have f0 := keepF d0 (df 0) hb1
  have f1 := keepF d1 (df 1) hb1
  have f2 := keepF d2 (df 2) hb1
  have f3 := keepF d3 (df 3) hb1
  have f4 := keepF d4 (df 4) hb1
  have f5 := keepF d5 (df 5) hb1
  have f6 := keepF d6 (df 6) hb1
  have f7 := keepF d7 (df 7) hb1
  have f8 := keepF d8 (df 8) hb1
  have f9 := keepF d9 (df 9) hb1
  have f10 := keepF d10 (df 10) hb1
  have f11 := keepF d11 (df 11) hb1
  have d0 := keepC d0 hb1
  have d1 := keepC d1 hb1
  have d2 := keepC d2 hb1
  have d3 := keepC d3 hb1
  have d4 := keepC d4 hb1
  have d5 := keepC d5 hb1
  have d6 := keepC d6 hb1
  have d7 := keepC d7 hb1
  have d8 := keepC d8 hb1
  have d9 := keepC d9 hb1
  have d10 := keepC d10 hb1
  have d11 := keepC d11 hb1
  have s0 := keepC s0 hb1
  have s1 := keepC s1 hb1
  have s2 := keepC s2 hb1
  have s3 := keepC s3 hb1
  have s4 := keepC s4 hb1
  have s5 := keepC s5 hb1
  have s6 := keepC s6 hb1
  have s7 := keepC s7 hb1
  have s8 := keepC s8 hb1
  have s9 := keepC s9 hb1
  have s10 := keepC s10 hb1
  have s11 := keepC s11 hb1
  clear hb1 hW df zW
  cases ok
  · go_wp2
    refine bodyPost_ret (v := .tuple #[newV 0 0 0 0 0 0, .bool false]) (by simp [results, Tryz.results34, go_sem, newV, d0, d1, d2, d3, d4, d5, d6, d7, d8, d9, d10, d11]) rfl ⟨by rw [MV.out, HOK.out]; rfl, ?_⟩
    exact (((((((((((hW1.setCell l1 _).setCell l1 _).setCell l1 _).setCell l1 _).setCell l1 _).setCell l1 _).setCell l1 _).setCell l1 _).setCell l1 _).setCell l1 _).setCell l1 _).setCell l1 _
  · go_wp2
    refine bodyPost_ret (v := .tuple #[newV kind size step r g b, .bool true]) (by simp [results, Tryz.results34, go_sem, newV, d0, d1, d2, d3, d4, d5, d6, d7, d8, d9, d10, d11]) rfl ⟨by rw [MV.out, HOK.out]; rfl, ?_⟩
    exact (((((((((((hW1.setCell l1 _).setCell l1 _).setCell l1 _).setCell l1 _).setCell l1 _).setCell l1 _).setCell l1 _).setCell l1 _).setCell l1 _).setCell l1 _).setCell l1 _).setCell l1 _

set_option maxRecDepth 100000 in
set_option maxHeartbeats 8000000 in
theorem specNewShow_any (kind size : Int) (step r g b : Nat) (w : World) :
    Calls Tryz.prog 63 #[.int .i64 kind, .int .i64 size, .float .f32 step, .agg #[.float .f32 r, .float .f32 g, .float .f32 b]] w fun e w' => e = .returned (.tuple #[madeV kind size step r g b, .bool (newOk kind size step r g b)]) ∧ Below w.heap.size w w' := by
  have KI := Lib.hid (fun w => specIsShow_new kind size step r g b w)
  obtain ⟨ok, hok⟩ : ∃ ok, ok = newOk kind size step r g b := ⟨_, rfl⟩
  have MV := Lib.hid (show madeV kind size step r g b = if ok then newV kind size step r g b else newV 0 0 0 0 0 0 by rw [hok]; rfl)
  have HOK := Lib.hid hok.symm
  rw [← hok] at KI
  unfold newV at KI
  clear hok
  go_enter Tryz.func63, Tryz.ntmps63
  go_wp2_with fail
  obtain ⟨W, hWe⟩ : ∃ W, W = ((w.alloc (Obj.cells #[.float .f32 r, .float .f32 g, .float .f32 b] 26)).alloc (Obj.cells #[.int .i64 0, .float .f32 0, .float .f32 0, .float .f32 0, .float .f32 0, .slice none 0 0, .int .i64 0, .complex .f32 0 0, .float .f32 0, .slice none 0 0, .int .i64 0, .slice none 0 0] 34)).alloc (Obj.cells #[.int .i64 size, .float .f32 step, .float .f32 r, .float .f32 g, .float .f32 b, .slice none 0 0, .int .i64 kind, .complex .f32 0 0, .float .f32 0, .slice none 0 0, .int .i64 0, .slice none 0 0] 34) := ⟨_, rfl⟩
  have hW : Below w.heap.size w W := by rw [hWe]; (repeat (first | with_reducible assumption | exact Below.refl _ _ | (refine Below.setCell ?_ (by first | exact Nat.le_refl _ | (simp; done) | omega | (simp; omega)) _) | (refine below_drewN ?_ _) | (refine Below.drew ?_) | (refine Below.alloc ?_ (by first | exact Nat.le_refl _ | (simp; done) | omega | (simp; omega)) _) | (refine then_ ?_ (by with_reducible assumption)) | assumption | (refine then_ ?_ (by assumption))))
  have zW : W.heap.size = w.heap.size + 3 := by rw [hWe]; simp
  have d0 : W.cell? ⟨w.heap.size + 1, 0, none⟩ = some (.int .i64 0) := by rw [hWe]; simp [go_sem]
  have d1 : W.cell? ⟨w.heap.size + 1, 1, none⟩ = some (.float .f32 0) := by rw [hWe]; simp [go_sem]
  have d2 : W.cell? ⟨w.heap.size + 1, 2, none⟩ = some (.float .f32 0) := by rw [hWe]; simp [go_sem]
  have d3 : W.cell? ⟨w.heap.size + 1, 3, none⟩ = some (.float .f32 0) := by rw [hWe]; simp [go_sem]
  have d4 : W.cell? ⟨w.heap.size + 1, 4, none⟩ = some (.float .f32 0) := by rw [hWe]; simp [go_sem]
  have d5 : W.cell? ⟨w.heap.size + 1, 5, none⟩ = some (.slice none 0 0) := by rw [hWe]; simp [go_sem]
  have d6 : W.cell? ⟨w.heap.size + 1, 6, none⟩ = some (.int .i64 0) := by rw [hWe]; simp [go_sem]
  have d7 : W.cell? ⟨w.heap.size + 1, 7, none⟩ = some (.complex .f32 0 0) := by rw [hWe]; simp [go_sem]
  have d8 : W.cell? ⟨w.heap.size + 1, 8, none⟩ = some (.float .f32 0) := by rw [hWe]; simp [go_sem]
  have d9 : W.cell? ⟨w.heap.size + 1, 9, none⟩ = some (.slice none 0 0) := by rw [hWe]; simp [go_sem]
  have d10 : W.cell? ⟨w.heap.size + 1, 10, none⟩ = some (.int .i64 0) := by rw [hWe]; simp [go_sem]
  have d11 : W.cell? ⟨w.heap.size + 1, 11, none⟩ = some (.slice none 0 0) := by rw [hWe]; simp [go_sem]
  have s0 : W.cell? ⟨w.heap.size + 1 + 1, 0, none⟩ = some (.int .i64 size) := by rw [hWe]; simp [go_sem]
  have s1 : W.cell? ⟨w.heap.size + 1 + 1, 1, none⟩ = some (.float .f32 step) := by rw [hWe]; simp [go_sem]
  have s2 : W.cell? ⟨w.heap.size + 1 + 1, 2, none⟩ = some (.float .f32 r) := by rw [hWe]; simp [go_sem]
  have s3 : W.cell? ⟨w.heap.size + 1 + 1, 3, none⟩ = some (.float .f32 g) := by rw [hWe]; simp [go_sem]
  have s4 : W.cell? ⟨w.heap.size + 1 + 1, 4, none⟩ = some (.float .f32 b) := by rw [hWe]; simp [go_sem]
  have s5 : W.cell? ⟨w.heap.size + 1 + 1, 5, none⟩ = some (.slice none 0 0) := by rw [hWe]; simp [go_sem]
  have s6 : W.cell? ⟨w.heap.size + 1 + 1, 6, none⟩ = some (.int .i64 kind) := by rw [hWe]; simp [go_sem]
  have s7 : W.cell? ⟨w.heap.size + 1 + 1, 7, none⟩ = some (.complex .f32 0 0) := by rw [hWe]; simp [go_sem]
  have s8 : W.cell? ⟨w.heap.size + 1 + 1, 8, none⟩ = some (.float .f32 0) := by rw [hWe]; simp [go_sem]
  have s9 : W.cell? ⟨w.heap.size + 1 + 1, 9, none⟩ = some (.slice none 0 0) := by rw [hWe]; simp [go_sem]
  have s10 : W.cell? ⟨w.heap.size + 1 + 1, 10, none⟩ = some (.int .i64 0) := by rw [hWe]; simp [go_sem]
  have s11 : W.cell? ⟨w.heap.size + 1 + 1, 11, none⟩ = some (.slice none 0 0) := by rw [hWe]; simp [go_sem]
  have df : ∀ j, W.frozen? ⟨w.heap.size + 1, j, none⟩ = false := by intro j; rw [hWe]; simp [go_sem]
  have l1 : w.heap.size ≤ w.heap.size + 1 := by omega
  rw [← hWe]
  clear hWe
  (with_reducible refine (KI.out _).mono ?_)
  rintro e w1 ⟨rfl, hb1⟩
  have hW1 := then_ hW hb1
  have lb1 : w.heap.size + 1 < w1.heap.size := by have := hb1.size; omega
  have lb2 : w.heap.size + 1 + 1 < w1.heap.size := by have := hb1.size; omega
  have n12 : ¬ w.heap.size + 1 = w.heap.size + 1 + 1 := by omega
  have n21 : ¬ w.heap.size + 1 + 1 = w.heap.size + 1 := by omega
  have f0 := keepF d0 (df 0) hb1
  have f1 := keepF d1 (df 1) hb1
  have f2 := keepF d2 (df 2) hb1
  have f3 := keepF d3 (df 3) hb1
  have f4 := keepF d4 (df 4) hb1
  have f5 := keepF d5 (df 5) hb1
  have f6 := keepF d6 (df 6) hb1
  have f7 := keepF d7 (df 7) hb1
  have f8 := keepF d8 (df 8) hb1
  have f9 := keepF d9 (df 9) hb1
  have f10 := keepF d10 (df 10) hb1
  have f11 := keepF d11 (df 11) hb1
  have d0 := keepC d0 hb1
  have d1 := keepC d1 hb1
  have d2 := keepC d2 hb1
  have d3 := keepC d3 hb1
  have d4 := keepC d4 hb1
  have d5 := keepC d5 hb1
  have d6 := keepC d6 hb1
  have d7 := keepC d7 hb1
  have d8 := keepC d8 hb1
  have d9 := keepC d9 hb1
  have d10 := keepC d10 hb1
  have d11 := keepC d11 hb1
  have s0 := keepC s0 hb1
  have s1 := keepC s1 hb1
  have s2 := keepC s2 hb1
  have s3 := keepC s3 hb1
  have s4 := keepC s4 hb1
  have s5 := keepC s5 hb1
  have s6 := keepC s6 hb1
  have s7 := keepC s7 hb1
  have s8 := keepC s8 hb1
  have s9 := keepC s9 hb1
  have s10 := keepC s10 hb1
  have s11 := keepC s11 hb1
  clear hb1 hW df zW
  cases ok
  · go_wp2
    refine bodyPost_ret (v := .tuple #[newV 0 0 0 0 0 0, .bool false]) (by simp [results, Tryz.results63, go_sem, newV, d0, d1, d2, d3, d4, d5, d6, d7, d8, d9, d10, d11]) rfl ⟨by rw [MV.out, HOK.out]; rfl, ?_⟩
    exact (((((((((((hW1.setCell l1 _).setCell l1 _).setCell l1 _).setCell l1 _).setCell l1 _).setCell l1 _).setCell l1 _).setCell l1 _).setCell l1 _).setCell l1 _).setCell l1 _).setCell l1 _
  · go_wp2
    refine bodyPost_ret (v := .tuple #[newV kind size step r g b, .bool true]) (by simp [results, Tryz.results63, go_sem, newV, d0, d1, d2, d3, d4, d5, d6, d7, d8, d9, d10, d11]) rfl ⟨by rw [MV.out, HOK.out]; rfl, ?_⟩
    exact (((((((((((hW1.setCell l1 _).setCell l1 _).setCell l1 _).setCell l1 _).setCell l1 _).setCell l1 _).setCell l1 _).setCell l1 _).setCell l1 _).setCell l1 _).setCell l1 _).setCell l1 _

theorem made_new (kind size : Int) (step r g b : Nat) : ∃ (k s : Int) (t r' g' b' : Nat), madeV kind size step r g b = newV k s t r' g' b' := by
  unfold madeV
  split
  · exact ⟨_, _, _, _, _, _, rfl⟩
  · exact ⟨_, _, _, _, _, _, rfl⟩
end Go.Proofs.YthlphmojldbpkaaGreat

/- l6Draw: a show that has gone on for a while. -/
namespace Go.Proofs.YthlphmojldbpkaaGreat
open Go.RowKit
attribute [local go_sem] run_store_float run_store_complex

/-- the answer's box and the box of the show, beside the cursor -/
structure DrW (W0 : World) (g : Nat) (A : Option Addr) (m c : Nat) (bs : List Int) (y : Nat) (l : List Value) (t : Shw) (S B L : Option Addr) (k d q : Nat) (W : World) : Prop where
  cx : CA W y l
  fx : FA W y
  co : CA W W0.heap.size shw0
  fo : FA W W0.heap.size
  hy : W0.heap.size < y
  lt : y < W.heap.size
  cur : CurB W g A m c bs
  gr : W0.grownBy W (some g)
  hg : g < W0.heap.size
  own : OwnS W (W0.heap.size + 1) t S B L k d q
  off : OffS t S B L k d q y
theorem OwnS.gro {w w' : World} {base g : Nat} {s : Shw} {A B L : Option Addr} {c d q : Nat} (h : OwnS w base s A B L c d q) (hg : w.grownBy w' (some g)) (hb : g < base) : OwnS w' base s A B L c d q :=
  have ne : ∀ {E : TypeId} {z n : Nat} {v : Value} {xs : List Value}, w.ownsRow base E z v n xs → ∀ k, some g = some k → Off v k := fun h k e => by injection e with e; subst e; exact off_lt h hb
  ⟨owns_grown h.1 hg (ne h.1), owns_grown h.2.1 hg (ne h.2.1), owns_grown h.2.2.1 hg (ne h.2.2.1), h.2.2.2⟩
theorem DrW.call {W0 W W' : World} {g : Nat} {A : Option Addr} {m c : Nat} {bs : List Int} {y : Nat} {l : List Value} {t : Shw} {S B L : Option Addr} {k d q : Nat} (h : DrW W0 g A m c bs y l t S B L k d q W) (hc : CurB W' g A m c bs) (hg : W.grownBy W' (some g)) : DrW W0 g A m c bs y l t S B L k d q W' :=
  have := h.hg
  have := h.hy
  have := h.lt
  have ny : ∀ k, some g = some k → y ≠ k := fun k e => by injection e with e; omega
  have no : ∀ k, some g = some k → W0.heap.size ≠ k := fun k e => by injection e with e; omega
  ⟨h.cx.grown hg ny, h.fx.grown h.lt hg ny, h.co.grown hg no, h.fo.grown (by omega) hg no, h.hy, Nat.lt_of_lt_of_le h.lt hg.size, hc, grown_trans h.gr hg, h.hg, h.own.gro hg (by omega), h.off⟩
theorem DrW.step {W0 W W' : World} {g : Nat} {A : Option Addr} {m c : Nat} {bs : List Int} {y : Nat} {l : List Value} {t : Shw} {S B L : Option Addr} {k d q : Nat} (h : DrW W0 g A m c bs y l t S B L k d q W) (hb : Below W.heap.size W W') : DrW W0 g A m c bs y l t S B L k d q W' :=
  h.call (h.cur.step hb) (grown_of_below hb _)
theorem DrW.put {W0 W : World} {g : Nat} {A : Option Addr} {m c : Nat} {bs : List Int} {y : Nat} {l : List Value} {t : Shw} {S B L : Option Addr} {k d q : Nat} (h : DrW W0 g A m c bs y l t S B L k d q W) (i : Nat) (u : Value) : DrW W0 g A m c bs y (l.set i u) t S B L k d q (W.setCell ⟨y, i, none⟩ u) :=
  have := h.hg
  have := h.hy
  ⟨h.cx.put i u, h.fx.set _ _, h.co.other ⟨y, i, none⟩ u (by show ¬ W0.heap.size = y; omega), h.fo.set _ _, h.hy, by have := h.lt; simp [World.setCell]; omega, curB_set h.cur (by show g < y; omega) _, grown_new h.gr (by show W0.heap.size ≤ y; omega) _, h.hg, h.own.setO h.off i u, h.off⟩
theorem DrW.puto {W0 W : World} {g : Nat} {A : Option Addr} {m c : Nat} {bs : List Int} {t : Shw} {S B L : Option Addr} {k d q : Nat} {o : List Value}
    (h : CA W W0.heap.size o ∧ CurB W g A m c bs ∧ W0.grownBy W (some g) ∧ g < W0.heap.size ∧ OwnS W (W0.heap.size + 1) t S B L k d q) (i : Nat) (u : Value) :
    CA (W.setCell ⟨W0.heap.size, i, none⟩ u) W0.heap.size (o.set i u) ∧ CurB (W.setCell ⟨W0.heap.size, i, none⟩ u) g A m c bs ∧ W0.grownBy (W.setCell ⟨W0.heap.size, i, none⟩ u) (some g) ∧ g < W0.heap.size ∧ OwnS (W.setCell ⟨W0.heap.size, i, none⟩ u) (W0.heap.size + 1) t S B L k d q :=
  ⟨h.1.put i u, curB_set h.2.1 h.2.2.2.1 _, grown_new h.2.2.1 (Nat.le_refl _) _, h.2.2.2.1, h.2.2.2.2.set _ (Nat.lt_succ_self _) u⟩
/-- another show in the box -/
theorem DrW.own' {W0 W : World} {g : Nat} {A : Option Addr} {m c : Nat} {bs : List Int} {y : Nat} {l : List Value} {t t' : Shw} {S B L S' B' L' : Option Addr} {k d q k' d' q' b : Nat} (h : DrW W0 g A m c bs y l t S B L k d q W) (own : OwnS W b t' S' B' L' k' d' q') (hb : W0.heap.size + 1 ≤ b) (hy : y < b) : DrW W0 g A m c bs y l t' S' B' L' k' d' q' W :=
  ⟨h.cx, h.fx, h.co, h.fo, h.hy, h.lt, h.cur, h.gr, h.hg, own.mono hb, own.offLt hy⟩
theorem ownS_new (w : World) (b : Nat) (sz : Int) (st : Nat) : OwnS w b (newS sz st) none none none 0 0 0 :=
  ⟨⟨rfl, .inl ⟨rfl, rfl⟩⟩, ⟨rfl, .inl ⟨rfl, rfl⟩⟩, ⟨rfl, .inl ⟨rfl, rfl⟩⟩, (fun g e => by cases e), (fun g e => by cases e), (fun g e => by cases e)⟩
theorem offS_new (sz : Int) (st g : Nat) : OffS (newS sz st) none none none 0 0 0 g := ⟨(fun e => by cases e), (fun e => by cases e), (fun e => by cases e)⟩
theorem stepsD_ok {st : Nat} (h : st ∈ stepsD) : stpB st = true := by
  have : ∀ x ∈ stepsD, stpB x = true := by decide +kernel
  exact this st h

/-! ### a region that loads the show, draws, and does an event -/
theorem drT0 {W0 X : World} {g : Nat} {A : Option Addr} {m c : Nat} {bs : List Int} {y : Nat} {l : List Value} {t : Shw} {S B L : Option Addr} {k d q : Nat} (h : DrW W0 g A m c bs y l t S B L k d q X) :
    (∀ o, X.cell? ⟨y, o, none⟩ = X.cell? ⟨y, o, none⟩) ∧ X.grownBy X (some g) ∧ CurB X g A m c bs := ⟨fun _ => rfl, World.grownBy.refl _ _, h.cur⟩
theorem drT0d {W0 X : World} {g : Nat} {A : Option Addr} {m c : Nat} {bs : List Int} {y : Nat} {l : List Value} {t : Shw} {S B L : Option Addr} {k d q : Nat} (h : DrW W0 g A m c bs y l t S B L k d q X) :
    (∀ o, X.drew.cell? ⟨y, o, none⟩ = X.cell? ⟨y, o, none⟩) ∧ X.grownBy X.drew (some g) ∧ CurB X.drew g A m c bs := ⟨fun _ => rfl, grown_drewN (World.grownBy.refl _ _) 1, h.cur.drew⟩
theorem drT0n {W0 X : World} {g : Nat} {A : Option Addr} {m c : Nat} {bs : List Int} {y : Nat} {l : List Value} {t : Shw} {S B L : Option Addr} {k d q : Nat} (h : DrW W0 g A m c bs y l t S B L k d q X) (n : Nat) :
    (∀ o, (X.drewN n).cell? ⟨y, o, none⟩ = X.cell? ⟨y, o, none⟩) ∧ X.grownBy (X.drewN n) (some g) ∧ CurB (X.drewN n) g A m c bs := ⟨fun _ => rfl, grown_drewN (World.grownBy.refl _ _) n, h.cur.step (below_drewN (Below.refl _ _) n)⟩
theorem drT1 {W0 X w' w'' : World} {g : Nat} {A : Option Addr} {m c : Nat} {bs : List Int} {y : Nat} {l : List Value} {t : Shw} {S B L : Option Addr} {k d q : Nat} (h : DrW W0 g A m c bs y l t S B L k d q X)
    (hS : (∀ o, w'.cell? ⟨y, o, none⟩ = X.cell? ⟨y, o, none⟩) ∧ X.grownBy w' (some g) ∧ CurB w' g A m c bs) (hc : CurB w'' g A m c bs) (hg : w'.grownBy w'' (some g)) :
    (∀ o, w''.cell? ⟨y, o, none⟩ = X.cell? ⟨y, o, none⟩) ∧ X.grownBy w'' (some g) ∧ CurB w'' g A m c bs :=
  have := h.lt
  have := h.hy
  have := h.hg
  ⟨fun o => ((gcell hg).1 y o (Nat.lt_of_lt_of_le h.lt hS.2.1.size) (by omega)).trans (hS.1 o), grown_trans hS.2.1 hg, hc⟩
theorem drT2 {W0 X w' w'' : World} {g : Nat} {A : Option Addr} {m c : Nat} {bs : List Int} {y : Nat} {l : List Value} {t : Shw} {S B L : Option Addr} {k d q : Nat} (h : DrW W0 g A m c bs y l t S B L k d q X)
    (hS : (∀ o, w'.cell? ⟨y, o, none⟩ = X.cell? ⟨y, o, none⟩) ∧ X.grownBy w' (some g) ∧ CurB w' g A m c bs) (hb : Below w'.heap.size w' w'') :
    (∀ o, w''.cell? ⟨y, o, none⟩ = X.cell? ⟨y, o, none⟩) ∧ X.grownBy w'' (some g) ∧ CurB w'' g A m c bs := drT1 h hS (hS.2.2.step hb) (grown_of_below hb _)
theorem drT3 {W0 X w' : World} {g : Nat} {A : Option Addr} {m c : Nat} {bs : List Int} {y : Nat} {l : List Value} {t : Shw} {S B L : Option Addr} {k d q : Nat} (h : DrW W0 g A m c bs y l t S B L k d q X)
    (hS : (∀ o, w'.cell? ⟨y, o, none⟩ = X.cell? ⟨y, o, none⟩) ∧ X.grownBy w' (some g) ∧ CurB w' g A m c bs) (o : Obj) :
    (∀ i, (w'.alloc o).cell? ⟨y, i, none⟩ = X.cell? ⟨y, i, none⟩) ∧ X.grownBy (w'.alloc o) (some g) ∧ CurB (w'.alloc o) g A m c bs := drT2 h hS (by (repeat (first | with_reducible assumption | exact Below.refl _ _ | (refine Below.setCell ?_ (by first | exact Nat.le_refl _ | (simp; done) | omega | (simp; omega)) _) | (refine below_drewN ?_ _) | (refine Below.drew ?_) | (refine Below.alloc ?_ (by first | exact Nat.le_refl _ | (simp; done) | omega | (simp; omega)) _) | (refine then_ ?_ (by with_reducible assumption)) | assumption | (refine then_ ?_ (by assumption)))))
theorem drT {W0 X w' : World} {g : Nat} {A : Option Addr} {m c : Nat} {bs : List Int} {y : Nat} {l : List Value} {t : Shw} {S B L : Option Addr} {k d q : Nat} (h : DrW W0 g A m c bs y l t S B L k d q X)
    (hS : (∀ o, w'.cell? ⟨y, o, none⟩ = X.cell? ⟨y, o, none⟩) ∧ X.grownBy w' (some g) ∧ CurB w' g A m c bs) : DrW W0 g A m c bs y l t S B L k d q w' := h.call hS.2.2 hS.2.1
theorem drDo {W0 X w' w'' : World} {g : Nat} {A : Option Addr} {m c : Nat} {bs : List Int} {y : Nat} {l : List Value} {t t' : Shw} {S B L S' B' L' : Option Addr} {k d q k' d' q' : Nat} (h : DrW W0 g A m c bs y l t S B L k d q X)
    (hS : (∀ o, w'.cell? ⟨y, o, none⟩ = X.cell? ⟨y, o, none⟩) ∧ X.grownBy w' (some g) ∧ CurB w' g A m c bs) (hb : Below w'.heap.size w' w'') (own : OwnS w'' w'.heap.size t' S' B' L' k' d' q') : DrW W0 g A m c bs y l t' S' B' L' k' d' q' w'' :=
  have k := drT h hS
  (k.step hb).own' own (by have := k.hy; have := k.lt; omega) k.lt
theorem mirL (w : World) : ∀ y, y < 5 → ∃ x, True ∧ (w.alloc (Obj.cells #[.int .i64 0, .int .i64 1, .int .i64 2, .int .i64 3, .int .i64 3] 3)).cell? ⟨w.heap.size, y, none⟩ = some (.int .i64 x) := by
  intro y hy
  have e : y = 0 ∨ y = 1 ∨ y = 2 ∨ y = 3 ∨ y = 4 := by omega
  rcases e with rfl | rfl | rfl | rfl | rfl
  · exact ⟨0, trivial, by simp [go_sem]⟩
  · exact ⟨1, trivial, by simp [go_sem]⟩
  · exact ⟨2, trivial, by simp [go_sem]⟩
  · exact ⟨3, trivial, by simp [go_sem]⟩
  · exact ⟨3, trivial, by simp [go_sem]⟩
/-- what DoEvent hands back, of a drawn show -/
def DoneS (_ : Shw) (base : Nat) (r : Ending) (w' : World) : Prop :=
  ∃ (u : Shw) (b : Bool) (A B L : Option Addr) (c d q : Nat), Drawn u ∧ r = .returned (.tuple #[.agg #[.int .i64 u.sz, .float .f32 u.st, .float .f32 u.li.1, .float .f32 u.li.2.1, .float .f32 u.li.2.2, .slice A u.sh.length c, .int .i64 u.mir, .complex .f32 u.gr.1 u.gr.2, .float .f32 u.loss, .slice B u.bs.length d, .int .i64 u.tk, .slice L u.log.length q], .bool b]) ∧ OwnS w' base u A B L c d q
theorem specDoEvent_drawn (s : Shw) (e : Ev) (A B L : Option Addr) (c d q : Nat) (w : World) (hd : Drawn s) (he : evG e = true) (hr : RdS w s A B L) :
    Calls Tryz.prog 62 #[.agg #[.int .i64 s.sz, .float .f32 s.st, .float .f32 s.li.1, .float .f32 s.li.2.1, .float .f32 s.li.2.2, .slice A s.sh.length c, .int .i64 s.mir, .complex .f32 s.gr.1 s.gr.2, .float .f32 s.loss, .slice B s.bs.length d, .int .i64 s.tk, .slice L s.log.length q], .agg #[.int .i64 e.k, .int .i64 e.n, .complex .f32 e.z.1 e.z.2, .complex .f32 e.s.1.1 e.s.1.2, .complex .f32 e.s.2.1.1 e.s.2.1.2, .complex .f32 e.s.2.2.1.1 e.s.2.2.1.2, .float .f32 e.s.2.2.2.1.1, .float .f32 e.s.2.2.2.1.2.1, .float .f32 e.s.2.2.2.1.2.2, .float .f32 e.s.2.2.2.2, .float .f32 e.c.1, .float .f32 e.c.2.1, .float .f32 e.c.2.2]] w fun r w' => DoneS s w.heap.size r w' ∧ Below w.heap.size w w' := by
  refine (specDoEvent_any s e A B L c d q w hd.good hd.ok he hr).mono ?_
  rintro r w' ⟨⟨A2, B2, L2, c2, d2, q2, rfl, own⟩, hb⟩
  exact ⟨⟨_, _, A2, B2, L2, c2, d2, q2, drawn_doD hd he, rfl, own⟩, hb⟩
end Go.Proofs.YthlphmojldbpkaaGreat

/- SameShow of a show and itself, however it lies. -/
namespace Go.Proofs.YthlphmojldbpkaaGreat
open Go.RowKit
attribute [local go_sem] run_store_float run_store_complex

set_option maxHeartbeats 2000000 in
theorem equalSh_self (A B : Option Addr) (n c d : Nat) (xs : List Sh) (w : World) (hn : n ≤ 1000) (ha : Rd shC 7 w w.heap.size A n xs) (hb : Rd shC 7 w w.heap.size B n xs) (hs : xs.all okSh = true) :
    Calls Tryz.prog 35 #[.slice A n c, .slice B n d] w fun e w' => e = .returned (.bool true) ∧ Below w.heap.size w w' := by
  have HS := Lib.hid hs
  have hz : ((n : Int) != (n : Int)) = false := by simp
  clear hs
  go_enter Tryz.func35, Tryz.ntmps35
  go_wp2
  go_loopw [5, 13] (fun _ i wr => ∃ k : Nat, k ≤ n ∧ i = .int .i64 k ∧ Below w.heap.size w wr) (fun _ i _ => n - (intOf i).toNat)
  case atStart => exact ⟨0, Nat.zero_le _, rfl, Below.refl _ _⟩
  case round =>
    obtain ⟨k, hk, rfl, hw⟩ := hrel
    by_cases hlt : k < n
    · obtain ⟨b, off, a, e, f, r, g, l, q, rfl, hbl, hx, h0, h1, h2, h3, h4, h5, h6⟩ := (ha.below hw).sh hlt
      obtain ⟨b', off', a', e', f', r', g', l', q', rfl, hbl', hy, h0', h1', h2', h3', h4', h5', h6'⟩ := (hb.below hw).sh hlt
      rw [hx] at hy
      injection hy with hy
      simp only [Prod.mk.injEq] at hy
      obtain ⟨rfl, rfl, rfl, ⟨rfl, rfl, rfl⟩, rfl⟩ := hy
      have hki : (k : Int) < (n : Int) := by omega
      have hk0 : (0 : Int) ≤ (k : Int) := by omega
      have kc := fun wx => run_neq_sh (a, e, f, (r, g, l), q) wx (List.all_eq_true.1 HS.out _ (List.mem_of_getElem? hx))
      unfold shC at kc
      dsimp only at kc
      clear hx
      go_wp2
      go_quiet (fail)
      go_wp2
      go_roundw
      case rel => exact ⟨k + 1, by omega, by go_num, by (repeat (first | with_reducible assumption | exact Below.refl _ _ | (refine Below.setCell ?_ (by first | exact Nat.le_refl _ | (simp; done) | omega | (simp; omega)) _) | (refine below_drewN ?_ _) | (refine Below.drew ?_) | (refine Below.alloc ?_ (by first | exact Nat.le_refl _ | (simp; done) | omega | (simp; omega)) _) | (refine then_ ?_ (by with_reducible assumption)) | assumption | (refine then_ ?_ (by assumption))))⟩
      case measure => simp [intOf]; omega
    · obtain rfl : k = n := by omega
      go_wp2
      go_ret
      exact ⟨rfl, hw⟩

set_option maxHeartbeats 4000000 in
theorem equalEv_self (A B : Option Addr) (n c d : Nat) (xs : List Ev) (w : World) (hn : n ≤ 1000) (ha : Rd evC 13 w w.heap.size A n xs) (hb : Rd evC 13 w w.heap.size B n xs) (hs : xs.all evB = true) :
    Calls Tryz.prog 36 #[.slice A n c, .slice B n d] w fun e w' => e = .returned (.bool true) ∧ Below w.heap.size w w' := by
  have HS := Lib.hid hs
  have hz : ((n : Int) != (n : Int)) = false := by simp
  clear hs
  go_enter Tryz.func36, Tryz.ntmps36
  go_wp2
  go_loopw [5, 13] (fun _ i wr => ∃ k : Nat, k ≤ n ∧ i = .int .i64 k ∧ Below w.heap.size w wr) (fun _ i _ => n - (intOf i).toNat)
  case atStart => exact ⟨0, Nat.zero_le _, rfl, Below.refl _ _⟩
  case round =>
    obtain ⟨k, hk, rfl, hw⟩ := hrel
    by_cases hlt : k < n
    · obtain ⟨b, off, e, rfl, hbl, hx, h0, h1, h2, h3, h4, h5, h6, h7, h8, h9, h10, h11, h12⟩ := (ha.below hw).ev hlt
      obtain ⟨b', off', e', rfl, hbl', hy, h0', h1', h2', h3', h4', h5', h6', h7', h8', h9', h10', h11', h12'⟩ := (hb.below hw).ev hlt
      rw [hx] at hy
      injection hy with hy
      subst hy
      have hki : (k : Int) < (n : Int) := by omega
      have hk0 : (0 : Int) ≤ (k : Int) := by omega
      have hev := List.all_eq_true.1 HS.out _ (List.mem_of_getElem? hx)
      have hevg : evG e = true := by unfold evB at hev; rw [Bool.and_eq_true] at hev; exact hev.1
      obtain ⟨g1, g2, g3⟩ := ev_good hevg
      have kc := fun wx => run_neq_ev e.k e.n e.z e.s e.c wx g1 g2 g3
      unfold evX at kc
      clear hx hev hevg g1 g2 g3
      go_wp2
      go_quiet (fail)
      go_wp2
      go_roundw
      case rel => exact ⟨k + 1, by omega, by go_num, by (repeat (first | with_reducible assumption | exact Below.refl _ _ | (refine Below.setCell ?_ (by first | exact Nat.le_refl _ | (simp; done) | omega | (simp; omega)) _) | (refine below_drewN ?_ _) | (refine Below.drew ?_) | (refine Below.alloc ?_ (by first | exact Nat.le_refl _ | (simp; done) | omega | (simp; omega)) _) | (refine then_ ?_ (by with_reducible assumption)) | assumption | (refine then_ ?_ (by assumption))))⟩
      case measure => simp [intOf]; omega
    · obtain rfl : k = n := by omega
      go_wp2
      go_ret
      exact ⟨rfl, hw⟩

theorem run_eql_colB (r g b r' g' b' : Nat) (w : World) : (binOp .eql 26 (.agg #[.float .f32 r, .float .f32 g, .float .f32 b]) (.agg #[.float .f32 r', .float .f32 g', .float .f32 b'])).run Tryz.prog w = .ok (.bool (colEqB (r, g, b) (r', g', b'))) w := by
  rw [run_eql_struct, run_eqIn_col 9998 r g b r' g' b' w]
  rfl
theorem run_eql_colS {c : Col} (h : colB c = true) (w : World) : (binOp .eql 26 (.agg #[.float .f32 c.1, .float .f32 c.2.1, .float .f32 c.2.2]) (.agg #[.float .f32 c.1, .float .f32 c.2.1, .float .f32 c.2.2])).run Tryz.prog w = .ok (.bool true) w := by
  rw [run_eql_colB, col_self h]
theorem cxE_refl {p : Pt} (h : finP p) : cxE p p = true := cx_self h
theorem bd_self {b : Bd} (h : cwP b.1 ∧ cwP b.2) : bdE b b = true := by
  unfold bdE
  rw [cxE_refl (cwP_fin h.1), cxE_refl (cwP_fin h.2)]; rfl
theorem stp_fin {x : Nat} (h : stpB x = true) : finB x = true := by
  rw [step_parts, Bool.and_eq_true] at h
  exact h.1

theorem RdS.rs {w : World} {s : Shw} {A B L : Option Addr} (h : RdS w s A B L) : Rd shC 7 w w.heap.size A s.sh.length s.sh := h.1
theorem RdS.rb {w : World} {s : Shw} {A B L : Option Addr} (h : RdS w s A B L) : Rd bdC 2 w w.heap.size B s.bs.length s.bs := h.2.1
theorem RdS.rl {w : World} {s : Shw} {A B L : Option Addr} (h : RdS w s A B L) : Rd evC 13 w w.heap.size L s.log.length s.log := h.2.2
/-- a tumble of a good show is itself -/
theorem sameTumble_self (s : Shw) (A B : Option Addr) (c d : Nat) (w : World) (hg : Good s) (hn : s.bs.length ≤ 8) (ha : Rd bdC 2 w w.heap.size A s.bs.length s.bs) (hb : Rd bdC 2 w w.heap.size B s.bs.length s.bs) :
    Calls Tryz.prog 24 #[.agg #[.int .i64 s.mir, .complex .f32 s.gr.1 s.gr.2, .float .f32 s.loss, .slice A s.bs.length c], .agg #[.int .i64 s.mir, .complex .f32 s.gr.1 s.gr.2, .float .f32 s.loss, .slice B s.bs.length d]] w fun e w' => e = .returned (.bool true) ∧ Below w.heap.size w w' :=
  sameTumble_yes s.mir s.gr s.gr s.loss s.loss A B s.bs.length c d s.bs s.bs w hn ha hb (cxE_refl (point_fin hg.gr)) (eq_self (part_fin hg.loss)) (fun i x y hx hy => by
    rw [hx] at hy
    injection hy with hy
    subst hy
    exact bd_self (hg.cw x (List.mem_of_getElem? hx)))

set_option maxRecDepth 100000 in
set_option maxHeartbeats 8000000 in
theorem sameShow_self (s : Shw) (A B L A' B' L' : Option Addr) (c d q c' d' q' : Nat) (w : World) (hg : Good s) (hk : okS s = true) (ha : RdS w s A B L) (hb : RdS w s A' B' L') :
    Calls Tryz.prog 10 #[.agg #[.int .i64 s.sz, .float .f32 s.st, .float .f32 s.li.1, .float .f32 s.li.2.1, .float .f32 s.li.2.2, .slice A s.sh.length c, .int .i64 s.mir, .complex .f32 s.gr.1 s.gr.2, .float .f32 s.loss, .slice B s.bs.length d, .int .i64 s.tk, .slice L s.log.length q], .agg #[.int .i64 s.sz, .float .f32 s.st, .float .f32 s.li.1, .float .f32 s.li.2.1, .float .f32 s.li.2.2, .slice A' s.sh.length c', .int .i64 s.mir, .complex .f32 s.gr.1 s.gr.2, .float .f32 s.loss, .slice B' s.bs.length d', .int .i64 s.tk, .slice L' s.log.length q']] w fun e w' => e = .returned (.bool true) ∧ Below w.heap.size w w' := by
  obtain ⟨p1, p2, p3, p4⟩ := okS_parts.1 hk
  have hl := hg.len
  have KS := Lib.hid (fun w h1 h2 => equalSh_self A A' s.sh.length c c' s.sh w (by omega) h1 h2 hg.sh)
  have KT := Lib.hid (fun w h1 h2 => sameTumble_self s B B' d d' w hg p1 h1 h2)
  have KE := Lib.hid (fun w h1 h2 => equalEv_self L L' s.log.length q q' s.log w (by omega) h1 h2 hg.log)
  have kc := fun wx => run_eql_colS hg.li wx
  have ke : (FloatKind.f32.format.order s.st s.st == some .eq) = true := eq_self (stp_fin hg.st)
  have hsz : (s.sz == s.sz) = true := by simp
  have htk : (s.tk == s.tk) = true := by simp
  have HA := Lib.hid ha
  have HB := Lib.hid hb
  clear ha hb hg hk p1 p2 p3 p4 hl
  go_enter Tryz.func10, Tryz.ntmps10
  go_upto_region 1 with fail
  have hW := Below.refl w.heap.size w
  have ca := CA.new w #[.int .i64 s.sz, .float .f32 s.st, .float .f32 s.li.1, .float .f32 s.li.2.1, .float .f32 s.li.2.2, .slice A s.sh.length c, .int .i64 s.mir, .complex .f32 s.gr.1 s.gr.2, .float .f32 s.loss, .slice B s.bs.length d, .int .i64 s.tk, .slice L s.log.length q] 34; have fa := FA.new w #[.int .i64 s.sz, .float .f32 s.st, .float .f32 s.li.1, .float .f32 s.li.2.1, .float .f32 s.li.2.2, .slice A s.sh.length c, .int .i64 s.mir, .complex .f32 s.gr.1 s.gr.2, .float .f32 s.loss, .slice B s.bs.length d, .int .i64 s.tk, .slice L s.log.length q] 34; replace hW := hW.alloc (hW.size) (Obj.cells #[.int .i64 s.sz, .float .f32 s.st, .float .f32 s.li.1, .float .f32 s.li.2.1, .float .f32 s.li.2.2, .slice A s.sh.length c, .int .i64 s.mir, .complex .f32 s.gr.1 s.gr.2, .float .f32 s.loss, .slice B s.bs.length d, .int .i64 s.tk, .slice L s.log.length q] 34); obtain ⟨V1, hV1e⟩ : ∃ V1, V1 = w.alloc (Obj.cells #[.int .i64 s.sz, .float .f32 s.st, .float .f32 s.li.1, .float .f32 s.li.2.1, .float .f32 s.li.2.2, .slice A s.sh.length c, .int .i64 s.mir, .complex .f32 s.gr.1 s.gr.2, .float .f32 s.loss, .slice B s.bs.length d, .int .i64 s.tk, .slice L s.log.length q] 34) := ⟨_, rfl⟩; have zV1 : V1.heap.size = w.heap.size + 1 := (by rw [hV1e]; simp); rw [← hV1e] at ca fa hW; rw [← hV1e]; clear hV1e; have la := ca.lt
  have cb := CA.new V1 #[.int .i64 s.sz, .float .f32 s.st, .float .f32 s.li.1, .float .f32 s.li.2.1, .float .f32 s.li.2.2, .slice A' s.sh.length c', .int .i64 s.mir, .complex .f32 s.gr.1 s.gr.2, .float .f32 s.loss, .slice B' s.bs.length d', .int .i64 s.tk, .slice L' s.log.length q'] 34; have fb := FA.new V1 #[.int .i64 s.sz, .float .f32 s.st, .float .f32 s.li.1, .float .f32 s.li.2.1, .float .f32 s.li.2.2, .slice A' s.sh.length c', .int .i64 s.mir, .complex .f32 s.gr.1 s.gr.2, .float .f32 s.loss, .slice B' s.bs.length d', .int .i64 s.tk, .slice L' s.log.length q'] 34; replace ca := ca.alloc (Obj.cells #[.int .i64 s.sz, .float .f32 s.st, .float .f32 s.li.1, .float .f32 s.li.2.1, .float .f32 s.li.2.2, .slice A' s.sh.length c', .int .i64 s.mir, .complex .f32 s.gr.1 s.gr.2, .float .f32 s.loss, .slice B' s.bs.length d', .int .i64 s.tk, .slice L' s.log.length q'] 34); replace fa := fa.alloc la (Obj.cells #[.int .i64 s.sz, .float .f32 s.st, .float .f32 s.li.1, .float .f32 s.li.2.1, .float .f32 s.li.2.2, .slice A' s.sh.length c', .int .i64 s.mir, .complex .f32 s.gr.1 s.gr.2, .float .f32 s.loss, .slice B' s.bs.length d', .int .i64 s.tk, .slice L' s.log.length q'] 34); replace hW := hW.alloc (hW.size) (Obj.cells #[.int .i64 s.sz, .float .f32 s.st, .float .f32 s.li.1, .float .f32 s.li.2.1, .float .f32 s.li.2.2, .slice A' s.sh.length c', .int .i64 s.mir, .complex .f32 s.gr.1 s.gr.2, .float .f32 s.loss, .slice B' s.bs.length d', .int .i64 s.tk, .slice L' s.log.length q'] 34); obtain ⟨V, hVe⟩ : ∃ V, V = V1.alloc (Obj.cells #[.int .i64 s.sz, .float .f32 s.st, .float .f32 s.li.1, .float .f32 s.li.2.1, .float .f32 s.li.2.2, .slice A' s.sh.length c', .int .i64 s.mir, .complex .f32 s.gr.1 s.gr.2, .float .f32 s.loss, .slice B' s.bs.length d', .int .i64 s.tk, .slice L' s.log.length q'] 34) := ⟨_, rfl⟩; have zV : V.heap.size = V1.heap.size + 1 := (by rw [hVe]; simp); rw [← hVe] at cb fb ca fa hW; rw [← hVe]; clear hVe; have lb := cb.lt; replace la := ca.lt
  rw [zV1] at cb fb lb zV
  clear zV1
  have a0 := ca 0 _ rfl; have a1 := ca 1 _ rfl; have a2 := ca 2 _ rfl; have a3 := ca 3 _ rfl; have a4 := ca 4 _ rfl; have a5 := ca 5 _ rfl; have a6 := ca 6 _ rfl; have a7 := ca 7 _ rfl; have a8 := ca 8 _ rfl; have a9 := ca 9 _ rfl; have a10 := ca 10 _ rfl; have a11 := ca 11 _ rfl
  have b0 := cb 0 _ rfl; have b1 := cb 1 _ rfl; have b2 := cb 2 _ rfl; have b3 := cb 3 _ rfl; have b4 := cb 4 _ rfl; have b5 := cb 5 _ rfl; have b6 := cb 6 _ rfl; have b7 := cb 7 _ rfl; have b8 := cb 8 _ rfl; have b9 := cb 9 _ rfl; have b10 := cb 10 _ rfl; have b11 := cb 11 _ rfl
  go_wp2_with fail
  (with_reducible refine (KS.out _ (HA.out.step hW).rs (HB.out.step hW).rs).mono ?_)
  rintro r w1 ⟨rfl, hb1⟩
  clear a0 a1 a2 a3 a4 a5 a6 a7 a8 a9 a10 a11 b0 b1 b2 b3 b4 b5 b6 b7 b8 b9 b10 b11
  replace ca := ca.keep hb1; replace fa := fa.keep hb1 la; replace la := ca.lt; replace cb := cb.keep hb1; replace fb := fb.keep hb1 lb; replace lb := cb.lt; replace hW := then_ hW hb1
  have a0 := ca 0 _ rfl; have a1 := ca 1 _ rfl; have a2 := ca 2 _ rfl; have a3 := ca 3 _ rfl; have a4 := ca 4 _ rfl; have a5 := ca 5 _ rfl; have a6 := ca 6 _ rfl; have a7 := ca 7 _ rfl; have a8 := ca 8 _ rfl; have a9 := ca 9 _ rfl; have a10 := ca 10 _ rfl; have a11 := ca 11 _ rfl
  have b0 := cb 0 _ rfl; have b1 := cb 1 _ rfl; have b2 := cb 2 _ rfl; have b3 := cb 3 _ rfl; have b4 := cb 4 _ rfl; have b5 := cb 5 _ rfl; have b6 := cb 6 _ rfl; have b7 := cb 7 _ rfl; have b8 := cb 8 _ rfl; have b9 := cb 9 _ rfl; have b10 := cb 10 _ rfl; have b11 := cb 11 _ rfl
  clear hb1
  go_wp2_with fail
  (with_reducible refine (KT.out _ (HA.out.step hW).rb (HB.out.step hW).rb).mono ?_)
  rintro r w2 ⟨rfl, hb1⟩
  clear a0 a1 a2 a3 a4 a5 a6 a7 a8 a9 a10 a11 b0 b1 b2 b3 b4 b5 b6 b7 b8 b9 b10 b11
  replace ca := ca.keep hb1; replace fa := fa.keep hb1 la; replace la := ca.lt; replace cb := cb.keep hb1; replace fb := fb.keep hb1 lb; replace lb := cb.lt; replace hW := then_ hW hb1
  have a0 := ca 0 _ rfl; have a1 := ca 1 _ rfl; have a2 := ca 2 _ rfl; have a3 := ca 3 _ rfl; have a4 := ca 4 _ rfl; have a5 := ca 5 _ rfl; have a6 := ca 6 _ rfl; have a7 := ca 7 _ rfl; have a8 := ca 8 _ rfl; have a9 := ca 9 _ rfl; have a10 := ca 10 _ rfl; have a11 := ca 11 _ rfl
  have b0 := cb 0 _ rfl; have b1 := cb 1 _ rfl; have b2 := cb 2 _ rfl; have b3 := cb 3 _ rfl; have b4 := cb 4 _ rfl; have b5 := cb 5 _ rfl; have b6 := cb 6 _ rfl; have b7 := cb 7 _ rfl; have b8 := cb 8 _ rfl; have b9 := cb 9 _ rfl; have b10 := cb 10 _ rfl; have b11 := cb 11 _ rfl
  clear hb1
  go_wp2_with fail
  (with_reducible refine (KE.out _ (HA.out.step hW).rl (HB.out.step hW).rl).mono ?_)
  rintro r w3 ⟨rfl, hb1⟩
  clear a0 a1 a2 a3 a4 a5 a6 a7 a8 a9 a10 a11 b0 b1 b2 b3 b4 b5 b6 b7 b8 b9 b10 b11
  go_wp2
  go_ret
  exact ⟨rfl, then_ hW hb1⟩
end Go.Proofs.YthlphmojldbpkaaGreat
