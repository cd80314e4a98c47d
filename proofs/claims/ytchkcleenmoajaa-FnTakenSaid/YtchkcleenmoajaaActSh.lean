
/- ActShard: the program's, of valid glass. -/
import Derived.Test.YtchkcleenmoajaaShard
import Derived.Test.YtchkcleenmoajaaMix
import Derived.Test.YtchkcleenmoajaaM23
import Derived.Test.YtchkcleenmoajaaHeldT
import Derived.Deep.RegionHeld3
import Derived.Deep.RegionLaw
import Derived.Deep.CutRange
namespace Go.Proofs.Ytchkcleenmoajaa
open Go.RowKit
attribute [local go_sem] run_store_float run_store_complex

def actSh (t : Int) (f : Bool) (s : Sh) : Sh := (actP t f s.1.1 s.1.2, actP t f s.2.1.1 s.2.1.2, actP t f s.2.2.1.1 s.2.2.1.2, s.2.2.2.1, s.2.2.2.2)
set_option maxRecDepth 100000 in
set_option maxHeartbeats 8000000 in
theorem actShard_yes (t : Int) (f : Bool) (a c d : Pt) (r g l q : Nat) (w : World) (ht : inB t 0 3 = true) (h : okSh (a, c, d, (r, g, l), q) = true) :
    Calls Try.prog 8 #[.agg #[.int .i64 t, .bool f], .agg #[.complex .f32 a.1 a.2, .complex .f32 c.1 c.2, .complex .f32 d.1 d.2, .float .f32 r, .float .f32 g, .float .f32 l, .float .f32 q]] w fun e w' => e = .returned (.agg #[.complex .f32 (actP t f a.1 a.2).1 (actP t f a.1 a.2).2, .complex .f32 (actP t f c.1 c.2).1 (actP t f c.1 c.2).2, .complex .f32 (actP t f d.1 d.2).1 (actP t f d.1 d.2).2, .float .f32 r, .float .f32 g, .float .f32 l, .float .f32 q]) ∧ Below w.heap.size w w' := by
  obtain ⟨P1, hP1⟩ : ∃ P, P = actP t f a.1 a.2 := ⟨_, rfl⟩
  obtain ⟨P2, hP2⟩ : ∃ P, P = actP t f c.1 c.2 := ⟨_, rfl⟩
  obtain ⟨P3, hP3⟩ : ∃ P, P = actP t f d.1 d.2 := ⟨_, rfl⟩
  have k1 := fun w => actSym_any t f a.1 a.2 w
  have k2 := fun w => actSym_any t f c.1 c.2 w
  have k3 := fun w => actSym_any t f d.1 d.2 w
  rw [← hP1] at k1
  rw [← hP2] at k2
  rw [← hP3] at k3
  rw [← hP1, ← hP2, ← hP3]
  simp only [cxV] at k1 k2 k3
  have K1 := Lib.hid k1
  have K2 := Lib.hid k2
  have K3 := Lib.hid k3
  have KS := Lib.hid (fun w => isShard_yes a c d r g l q w h)
  clear k1 k2 k3 hP1 hP2 hP3
  go_enter Try.func8, Try.ntmps8
  go_wp2_with fail
  (with_reducible refine (isSym_any t f _).mono ?_)
  rw [ht]
  rintro e w1 ⟨rfl, hb1⟩
  obtain ⟨W0, hW0⟩ : ∃ W, W = ((w.alloc (Obj.cells #[.int .i64 t, .bool f] 31)).alloc (Obj.cells #[.complex .f32 a.1 a.2, .complex .f32 c.1 c.2, .complex .f32 d.1 d.2, .float .f32 r, .float .f32 g, .float .f32 l, .float .f32 q] 36)).alloc (Obj.cells #[.complex .f32 0 0, .complex .f32 0 0, .complex .f32 0 0, .float .f32 0, .float .f32 0, .float .f32 0, .float .f32 0] 36) := ⟨_, rfl⟩
  have bW0 : Below w.heap.size w W0 := by rw [hW0]; (repeat (first | with_reducible assumption | exact Below.refl _ _ | (refine Below.setCell ?_ (by first | exact Nat.le_refl _ | (simp; done) | omega | (simp; omega)) _) | (refine below_drewN ?_ _) | (refine Below.drew ?_) | (refine Below.alloc ?_ (by first | exact Nat.le_refl _ | (simp; done) | omega | (simp; omega)) _) | (refine then_ ?_ (by with_reducible assumption)) | assumption | (refine then_ ?_ (by assumption))))
  have z0 : W0.heap.size = w.heap.size + 3 := by rw [hW0]; simp
  have s0 : W0.cell? ⟨w.heap.size, 0, none⟩ = some (.int .i64 t) := by rw [hW0]; simp [go_sem]
  have s1 : W0.cell? ⟨w.heap.size, 1, none⟩ = some (.bool f) := by rw [hW0]; simp [go_sem]
  have c0 : W0.cell? ⟨w.heap.size + 1, 0, none⟩ = some (.complex .f32 a.1 a.2) := by rw [hW0]; simp [go_sem]
  have c1 : W0.cell? ⟨w.heap.size + 1, 1, none⟩ = some (.complex .f32 c.1 c.2) := by rw [hW0]; simp [go_sem]
  have c2 : W0.cell? ⟨w.heap.size + 1, 2, none⟩ = some (.complex .f32 d.1 d.2) := by rw [hW0]; simp [go_sem]
  have c3 : W0.cell? ⟨w.heap.size + 1, 3, none⟩ = some (.float .f32 r) := by rw [hW0]; simp [go_sem]
  have c4 : W0.cell? ⟨w.heap.size + 1, 4, none⟩ = some (.float .f32 g) := by rw [hW0]; simp [go_sem]
  have c5 : W0.cell? ⟨w.heap.size + 1, 5, none⟩ = some (.float .f32 l) := by rw [hW0]; simp [go_sem]
  have c6 : W0.cell? ⟨w.heap.size + 1, 6, none⟩ = some (.float .f32 q) := by rw [hW0]; simp [go_sem]
  have cf : ∀ j, W0.frozen? ⟨w.heap.size + 1, j, none⟩ = false := by intro j; rw [hW0]; simp [go_sem]
  have d0 : W0.cell? ⟨w.heap.size + 1 + 1, 0, none⟩ = some (.complex .f32 0 0) := by rw [hW0]; simp [go_sem]
  have d1 : W0.cell? ⟨w.heap.size + 1 + 1, 1, none⟩ = some (.complex .f32 0 0) := by rw [hW0]; simp [go_sem]
  have d2 : W0.cell? ⟨w.heap.size + 1 + 1, 2, none⟩ = some (.complex .f32 0 0) := by rw [hW0]; simp [go_sem]
  have d3 : W0.cell? ⟨w.heap.size + 1 + 1, 3, none⟩ = some (.float .f32 0) := by rw [hW0]; simp [go_sem]
  have d4 : W0.cell? ⟨w.heap.size + 1 + 1, 4, none⟩ = some (.float .f32 0) := by rw [hW0]; simp [go_sem]
  have d5 : W0.cell? ⟨w.heap.size + 1 + 1, 5, none⟩ = some (.float .f32 0) := by rw [hW0]; simp [go_sem]
  have d6 : W0.cell? ⟨w.heap.size + 1 + 1, 6, none⟩ = some (.float .f32 0) := by rw [hW0]; simp [go_sem]
  have df : ∀ j, W0.frozen? ⟨w.heap.size + 1 + 1, j, none⟩ = false := by intro j; rw [hW0]; simp [go_sem]
  rw [← hW0] at hb1
  clear hW0
  have c0' := keepC c0 hb1
  have c1' := keepC c1 hb1
  have c2' := keepC c2 hb1
  have c3' := keepC c3 hb1
  have c4' := keepC c4 hb1
  have c5' := keepC c5 hb1
  have c6' := keepC c6 hb1
  have lx1 : w.heap.size + 1 < w1.heap.size := World.block_lt_of_cell? _ _ c0'
  go_wp2_with fail
  (with_reducible refine (KS.out _).mono ?_)
  rintro e w2 ⟨rfl, hb2⟩
  have hb := then_ hb1 hb2
  have s0 := keepC s0 hb
  have s1 := keepC s1 hb
  have c0 := keepC c0 hb
  have c1 := keepC c1 hb
  have c2 := keepC c2 hb
  have c3 := keepC c3 hb
  have c4 := keepC c4 hb
  have c5 := keepC c5 hb
  have c6 := keepC c6 hb
  have cf := frB cf hb (by omega)
  have df := frB df hb (by omega)
  have d0 := keepC d0 hb
  have d1 := keepC d1 hb
  have d2 := keepC d2 hb
  have d3 := keepC d3 hb
  have d4 := keepC d4 hb
  have d5 := keepC d5 hb
  have d6 := keepC d6 hb
  have hW2 := then_ bW0 hb
  have zz := hb.size
  have l0 : w.heap.size < w2.heap.size := by omega
  have l1 : w.heap.size + 1 < w2.heap.size := by omega
  have l2 : w.heap.size + 1 + 1 < w2.heap.size := by omega
  have le1 : w.heap.size ≤ w.heap.size + 1 := by omega
  have le2 : w.heap.size ≤ w.heap.size + 1 + 1 := by omega
  have n10 : ¬ w.heap.size + 1 = w.heap.size := by omega
  have n12 : ¬ w.heap.size + 1 + 1 = w.heap.size + 1 := by omega
  have n01 : ¬ w.heap.size = w.heap.size + 1 := by omega
  clear hb1 hb2 c0' c1' c2' c3' c4' c5' c6' bW0
  go_upto_region 3 with fail
  go_cut [17, 21, 25] (fun v17 _ _ wx => ∃ wy : World, wx = (((wy.setCell ⟨w.heap.size + 1, 0, none⟩ (.complex .f32 P1.1 P1.2)).setCell ⟨w.heap.size + 1, 1, none⟩ (.complex .f32 P2.1 P2.2)).setCell ⟨w.heap.size + 1, 2, none⟩ (.complex .f32 P3.1 P3.2)) ∧ Below w2.heap.size w2 wy)
  case first =>
    refine wp_region_T (fun v => ∀ b o, b < w2.heap.size → v.cell? ⟨b, o, none⟩ = w2.cell? ⟨b, o, none⟩) (fun j => decide (13 ≤ j)) (by kernel_rfl) (fun _ _ _ => rfl) (fun hHeld => ?_)
    refine wpAnyT_take (i := 0) (v := .agg #[.int .i64 t, .bool f]) rfl (by kernel_rfl) (by kernel_rfl) (by kernel_rfl) (by kernel_rfl) (fun _ _ _ h => h) (Or.inl ⟨by rfl, (by intro wz hSz; (try dsimp only at hSz); go_simp)⟩) hHeld ?_
    try simp only [Act.put, List.setIfInBounds_toArray, List.set_cons_zero, List.set_cons_succ]
    refine wpAnyT_take (i := 4) (v := .agg #[.int .i64 t, .bool f]) rfl (by kernel_rfl) (by kernel_rfl) (by kernel_rfl) (by kernel_rfl) (fun _ _ _ h => h) (Or.inl ⟨by rfl, (by intro wz hSz; (try dsimp only at hSz); go_simp)⟩) hHeld ?_
    try simp only [Act.put, List.setIfInBounds_toArray, List.set_cons_zero, List.set_cons_succ]
    refine wpAnyT_take (i := 8) (v := .agg #[.int .i64 t, .bool f]) rfl (by kernel_rfl) (by kernel_rfl) (by kernel_rfl) (by kernel_rfl) (fun _ _ _ h => h) (Or.inl ⟨by rfl, (by intro wz hSz; (try dsimp only at hSz); go_simp)⟩) hHeld ?_
    try simp only [Act.put, List.setIfInBounds_toArray, List.set_cons_zero, List.set_cons_succ]
    refine wpAnyT_take (i := 1) (v := .pointer (some ⟨w.heap.size + 1, 0, none⟩)) rfl (by kernel_rfl) (by kernel_rfl) (by kernel_rfl) (by kernel_rfl) (fun _ _ _ h => h) (Or.inl ⟨by rfl, (by intro wz hSz; (try dsimp only at hSz); go_simp)⟩) hHeld ?_
    try simp only [Act.put, List.setIfInBounds_toArray, List.set_cons_zero, List.set_cons_succ]
    refine wpAnyT_take (i := 5) (v := .pointer (some ⟨w.heap.size + 1, 1, none⟩)) rfl (by kernel_rfl) (by kernel_rfl) (by kernel_rfl) (by kernel_rfl) (fun _ _ _ h => h) (Or.inl ⟨by rfl, (by intro wz hSz; (try dsimp only at hSz); go_simp)⟩) hHeld ?_
    try simp only [Act.put, List.setIfInBounds_toArray, List.set_cons_zero, List.set_cons_succ]
    refine wpAnyT_take (i := 9) (v := .pointer (some ⟨w.heap.size + 1, 2, none⟩)) rfl (by kernel_rfl) (by kernel_rfl) (by kernel_rfl) (by kernel_rfl) (fun _ _ _ h => h) (Or.inl ⟨by rfl, (by intro wz hSz; (try dsimp only at hSz); go_simp)⟩) hHeld ?_
    try simp only [Act.put, List.setIfInBounds_toArray, List.set_cons_zero, List.set_cons_succ]
    refine wpAnyT_take (i := 2) (v := .complex .f32 a.1 a.2) rfl (by kernel_rfl) (by kernel_rfl) (by kernel_rfl) (by kernel_rfl) (fun _ _ _ h => h) (Or.inl ⟨by rfl, (by intro wz hSz; (try dsimp only at hSz); go_simp)⟩) hHeld ?_
    try simp only [Act.put, List.setIfInBounds_toArray, List.set_cons_zero, List.set_cons_succ]
    refine wpAnyT_take (i := 6) (v := .complex .f32 c.1 c.2) rfl (by kernel_rfl) (by kernel_rfl) (by kernel_rfl) (by kernel_rfl) (fun _ _ _ h => h) (Or.inl ⟨by rfl, (by intro wz hSz; (try dsimp only at hSz); go_simp)⟩) hHeld ?_
    try simp only [Act.put, List.setIfInBounds_toArray, List.set_cons_zero, List.set_cons_succ]
    refine wpAnyT_take (i := 10) (v := .complex .f32 d.1 d.2) rfl (by kernel_rfl) (by kernel_rfl) (by kernel_rfl) (by kernel_rfl) (fun _ _ _ h => h) (Or.inl ⟨by rfl, (by intro wz hSz; (try dsimp only at hSz); go_simp)⟩) hHeld ?_
    try simp only [Act.put, List.setIfInBounds_toArray, List.set_cons_zero, List.set_cons_succ]
    refine wpAnyT_one (i := 3) (by kernel_rfl) rfl (fun K hK => ?_)
    go_simp
    go_at_call 26
    (with_reducible refine (K1.out _).mono ?_)
    rintro e w5 ⟨rfl, hbw5⟩
    have hBw5 : Below w2.heap.size w2 w5 := (by (repeat (first | with_reducible assumption | exact Below.refl _ _ | (refine Below.setCell ?_ (by first | exact Nat.le_refl _ | (simp; done) | omega | (simp; omega)) _) | (refine below_drewN ?_ _) | (refine Below.drew ?_) | (refine Below.alloc ?_ (by first | exact Nat.le_refl _ | (simp; done) | omega | (simp; omega)) _) | (refine then_ ?_ (by with_reducible assumption)) | assumption | (refine then_ ?_ (by assumption)))))
    go_wp2_with fail
    refine hK.out _ _ (fun _ b o h => hBw5.cell (p := ⟨b, o, none⟩) h) (fun hH => ?_)
    have hHeld := hH rfl
    clear hK K hH
    try simp only [Act.put, List.setIfInBounds_toArray, List.set_cons_zero, List.set_cons_succ]
    refine wpAnyT_take (i := 12) (v := .pointer (some ⟨w.heap.size + 1, 0, none⟩)) rfl (by kernel_rfl) (by kernel_rfl) (by kernel_rfl) (by kernel_rfl) (fun _ _ _ h => h) (Or.inl ⟨by rfl, (by intro wz hSz; (try dsimp only at hSz); go_simp)⟩) hHeld ?_
    try simp only [Act.put, List.setIfInBounds_toArray, List.set_cons_zero, List.set_cons_succ]
    refine wpAnyT_one (i := 7) (by kernel_rfl) rfl (fun K hK => ?_)
    go_simp
    go_at_call 26
    (with_reducible refine (K2.out _).mono ?_)
    rintro e w6 ⟨rfl, hbw6⟩
    have hBw6 : Below w2.heap.size w2 w6 := then_ hBw5 hbw6
    go_wp2_with fail
    refine hK.out _ _ (fun _ b o h => hBw6.cell (p := ⟨b, o, none⟩) h) (fun hH => ?_)
    have hHeld := hH rfl
    clear hK K hH
    try simp only [Act.put, List.setIfInBounds_toArray, List.set_cons_zero, List.set_cons_succ]
    refine wpAnyT_one (i := 11) (by kernel_rfl) rfl (fun K hK => ?_)
    go_simp
    go_at_call 26
    (with_reducible refine (K3.out _).mono ?_)
    rintro e w7 ⟨rfl, hbw7⟩
    have hBw7 : Below w2.heap.size w2 w7 := then_ hBw6 hbw7
    go_wp2_with fail
    refine hK.out _ _ (fun _ b o h => hBw7.cell (p := ⟨b, o, none⟩) h) (fun hH => ?_)
    have hHeld := hH rfl
    clear hK K hH
    try simp only [Act.put, List.setIfInBounds_toArray, List.set_cons_zero, List.set_cons_succ]
    have u0 := keepC c0 hBw7
    have u1 := keepC c1 hBw7
    have u2 := keepC c2 hBw7
    have v0 := (hBw7.frozen (p := ⟨w.heap.size + 1, 0, none⟩) l1).trans (cf 0)
    have v1 := (hBw7.frozen (p := ⟨w.heap.size + 1, 1, none⟩) l1).trans (cf 1)
    have v2 := (hBw7.frozen (p := ⟨w.heap.size + 1, 2, none⟩) l1).trans (cf 2)
    have t7 := (show w.heap.size + 1 < w7.heap.size from World.block_lt_of_cell? _ _ u0)
    refine wpAnyT_one (i := 13) (by kernel_rfl) rfl (fun K hK => ?_)
    go_simp
    refine hK.out _ _ (fun e => by cases e) (fun hH => ?_)
    clear hK K hH
    try simp only [Act.put, List.setIfInBounds_toArray, List.set_cons_zero, List.set_cons_succ]
    refine wpAnyT_one (i := 14) (by kernel_rfl) rfl (fun K hK => ?_)
    go_simp
    refine hK.out _ _ (fun e => by cases e) (fun hH => ?_)
    clear hK K hH
    try simp only [Act.put, List.setIfInBounds_toArray, List.set_cons_zero, List.set_cons_succ]
    refine wpAnyT_one (i := 15) (by kernel_rfl) rfl (fun K hK => ?_)
    go_simp
    refine hK.out _ _ (fun e => by cases e) (fun hH => ?_)
    clear hK K hH
    try simp only [Act.put, List.setIfInBounds_toArray, List.set_cons_zero, List.set_cons_succ]
    refine wpAnyT_one (i := 16) (by kernel_rfl) rfl (fun K hK => ?_)
    go_simp
    refine hK.out _ _ (fun e => by cases e) (fun hH => ?_)
    clear hK K hH
    try simp only [Act.put, List.setIfInBounds_toArray, List.set_cons_zero, List.set_cons_succ]
    refine wpAnyT_one (i := 17) (by kernel_rfl) rfl (fun K hK => ?_)
    go_simp
    refine hK.out _ _ (fun e => by cases e) (fun hH => ?_)
    clear hK K hH
    try simp only [Act.put, List.setIfInBounds_toArray, List.set_cons_zero, List.set_cons_succ]
    refine wpAnyT_end (by kernel_rfl) ?_ _
    go_wp2_with fail
    go_meet
    exact ⟨w7, rfl, hBw7⟩
  case rest =>
    obtain ⟨wy, hwx, hy⟩ := hcut
    have zy := hy.size
    have hSS := holdSet (holdSet (holdSet (gs := w.heap.size + 1) (W := wy) (B := wy.heap.size) (fun _ _ _ _ => rfl) 0 (.complex .f32 P1.1 P1.2)) 1 (.complex .f32 P2.1 P2.2)) 2 (.complex .f32 P3.1 P3.2)
    have x3 := keepC c3 hy
    have x4 := keepC c4 hy
    have x5 := keepC c5 hy
    have x6 := keepC c6 hy
    have x0 := keepC c0 hy
    have x1 := keepC c1 hy
    have x2 := keepC c2 hy
    have y0 : wc.cell? ⟨w.heap.size + 1, 0, none⟩ = some (.complex .f32 P1.1 P1.2) := by rw [hwx]; simp [go_sem, x0]
    have y1 : wc.cell? ⟨w.heap.size + 1, 1, none⟩ = some (.complex .f32 P2.1 P2.2) := by rw [hwx]; simp [go_sem, x1]
    have y2 : wc.cell? ⟨w.heap.size + 1, 2, none⟩ = some (.complex .f32 P3.1 P3.2) := by rw [hwx]; simp [go_sem, x2]
    have y3 : wc.cell? ⟨w.heap.size + 1, 3, none⟩ = some (.float .f32 r) := by rw [hwx]; simp [go_sem, x3]
    have y4 : wc.cell? ⟨w.heap.size + 1, 4, none⟩ = some (.float .f32 g) := by rw [hwx]; simp [go_sem, x4]
    have y5 : wc.cell? ⟨w.heap.size + 1, 5, none⟩ = some (.float .f32 l) := by rw [hwx]; simp [go_sem, x5]
    have y6 : wc.cell? ⟨w.heap.size + 1, 6, none⟩ = some (.float .f32 q) := by rw [hwx]; simp [go_sem, x6]
    have d0 := (show wc.cell? ⟨w.heap.size + 1 + 1, 0, none⟩ = _ from (by rw [hwx]; exact hSS _ 0 (by omega) n12)).trans (keepC d0 hy)
    have d1 := (show wc.cell? ⟨w.heap.size + 1 + 1, 1, none⟩ = _ from (by rw [hwx]; exact hSS _ 1 (by omega) n12)).trans (keepC d1 hy)
    have d2 := (show wc.cell? ⟨w.heap.size + 1 + 1, 2, none⟩ = _ from (by rw [hwx]; exact hSS _ 2 (by omega) n12)).trans (keepC d2 hy)
    have d3 := (show wc.cell? ⟨w.heap.size + 1 + 1, 3, none⟩ = _ from (by rw [hwx]; exact hSS _ 3 (by omega) n12)).trans (keepC d3 hy)
    have d4 := (show wc.cell? ⟨w.heap.size + 1 + 1, 4, none⟩ = _ from (by rw [hwx]; exact hSS _ 4 (by omega) n12)).trans (keepC d4 hy)
    have d5 := (show wc.cell? ⟨w.heap.size + 1 + 1, 5, none⟩ = _ from (by rw [hwx]; exact hSS _ 5 (by omega) n12)).trans (keepC d5 hy)
    have d6 := (show wc.cell? ⟨w.heap.size + 1 + 1, 6, none⟩ = _ from (by rw [hwx]; exact hSS _ 6 (by omega) n12)).trans (keepC d6 hy)
    have df : ∀ j, wc.frozen? ⟨w.heap.size + 1 + 1, j, none⟩ = false := by rw [hwx]; exact frS (frS (frS (frB df hy l2) _ _) _ _) _ _
    have hWc : Below w.heap.size w wc := by rw [hwx]; exact (((then_ hW2 hy).setCell le1 _).setCell le1 _).setCell le1 _
    have lc2 : w.heap.size + 1 + 1 < wc.heap.size := World.block_lt_of_cell? _ _ d0
    have lc1 : w.heap.size + 1 < wc.heap.size := World.block_lt_of_cell? _ _ y0
    have f0 := df 0
    have f1 := df 1
    have f2 := df 2
    have f3 := df 3
    have f4 := df 4
    have f5 := df 5
    have f6 := df 6
    clear hwx hy hSS x0 x1 x2 x3 x4 x5 x6 c0 c1 c2 c3 c4 c5 c6 cf
    go_wp2
    refine bodyPost_ret (v := .agg #[.complex .f32 P1.1 P1.2, .complex .f32 P2.1 P2.2, .complex .f32 P3.1 P3.2, .float .f32 r, .float .f32 g, .float .f32 l, .float .f32 q]) (by simp [results, Try.results8, go_sem, d0, d1, d2, d3, d4, d5, d6]) rfl ⟨rfl, ?_⟩
    exact ((((((hWc.setCell le2 _).setCell le2 _).setCell le2 _).setCell le2 _).setCell le2 _).setCell le2 _).setCell le2 _
end Go.Proofs.Ytchkcleenmoajaa
