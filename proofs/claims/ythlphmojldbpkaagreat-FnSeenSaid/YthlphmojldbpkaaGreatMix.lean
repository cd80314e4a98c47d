
/- MixColours, FilterColour: the program's, of colours. -/
import Derived.Test.YthlphmojldbpkaaGreatM16
import Derived.Deep.RegionHeld3
namespace Go.Proofs.YthlphmojldbpkaaGreat
open Go.RowKit
attribute [local go_sem] run_store_float run_store_complex

theorem holdSet {w W : World} {gs B : Nat} (h : ∀ b o, b < B → ¬ b = gs → w.cell? ⟨b, o, none⟩ = W.cell? ⟨b, o, none⟩) (j : Nat) (u : Value) : ∀ b o, b < B → ¬ b = gs → (w.setCell ⟨gs, j, none⟩ u).cell? ⟨b, o, none⟩ = W.cell? ⟨b, o, none⟩ :=
  fun b o hb hn => (World.cell?_setCell_other w ⟨gs, j, none⟩ ⟨b, o, none⟩ u (fun e => hn (by injection e with e1; exact e1.symm))).trans (h b o hb hn)
theorem times_q (x y : Nat) (w : World) : Calls Tryz.prog 84 #[.float .f32 x, .float .f32 y] w fun e w' => e = .returned (.float .f32 (mulB x y)) ∧ ∃ m, w' = w.drewN m := (times_any x y w).mono (fun _ _ ⟨h, m, e⟩ => ⟨h, m, e.symm⟩)
theorem diff_q (x y : Nat) (w : World) : Calls Tryz.prog 89 #[.float .f32 x, .float .f32 y] w fun e w' => e = .returned (.float .f32 (subB x y)) ∧ ∃ m, w' = w.drewN m := (diff_any x y w).mono (fun _ _ ⟨h, m, e⟩ => ⟨h, m, e.symm⟩)
theorem sum_q (x y : Nat) (w : World) : Calls Tryz.prog 110 #[.float .f32 x, .float .f32 y] w fun e w' => e = .returned (.float .f32 (addB x y)) ∧ ∃ m, w' = w.drewN m := (sum_any x y w).mono (fun _ _ ⟨h, m, e⟩ => ⟨h, m, e.symm⟩)

set_option maxHeartbeats 4000000 in
theorem mixF_any (x y k g : Nat) (w : World) (h0 : w.cell? ⟨g, 0, none⟩ = some (.float .f32 k)) :
    Calls Tryz.prog 142 #[.float .f32 x, .float .f32 y, .pointer (some ⟨g, 0, none⟩)] w fun e w' => e = .returned (.float .f32 (mixN x y k)) ∧ Dr w w' := by
  obtain ⟨d, hd⟩ : ∃ d, d = subB 1065353216 k := ⟨_, rfl⟩
  obtain ⟨u, hu⟩ : ∃ u, u = mulB x d := ⟨_, rfl⟩
  obtain ⟨v, hv⟩ : ∃ v, v = mulB y k := ⟨_, rfl⟩
  obtain ⟨z, hz⟩ : ∃ z, z = addB u v := ⟨_, rfl⟩
  have M := Lib.hid (show mixN x y k = if gtB z 1065353216 then 1065353216 else z by unfold mixN; rw [hz, hu, hv, hd])
  have k1 := fun w => diff_q 1065353216 k w
  have k2 := fun w => times_q x d w
  have k3 := fun w => times_q y k w
  have k4 := fun w => sum_q u v w
  rw [← hd] at k1
  rw [← hu] at k2
  rw [← hv] at k3
  rw [← hz] at k4
  have K1 := Lib.hid k1
  have K2 := Lib.hid k2
  have K3 := Lib.hid k3
  have K4 := Lib.hid k4
  have e1 : (FloatKind.f32.format.order z 1065353216 == some .gt) = gtB z 1065353216 := rfl
  have lg := World.block_lt_of_cell? _ _ h0
  dsimp only at lg
  clear k1 k2 k3 k4 hd hu hv hz
  go_enter Tryz.func142, Tryz.ntmps142
  go_wp2_with fail
  go_quiet (first
    | (go_at_call 89; with_reducible exact Calls.quiet_of (K1.out _))
    | (go_at_call 84; with_reducible exact Calls.quiet_of (K2.out _))
    | (go_at_call 84; with_reducible exact Calls.quiet_of (K3.out _))
    | (go_at_call 110; with_reducible exact Calls.quiet_of (K4.out _)))
  cases hg : gtB z 1065353216
  · rw [hg] at e1
    have M2 := Lib.hid (show mixN x y k = z by rw [M.out, hg]; rfl)
    clear hg
    go_wp2
    go_ret
    exact ⟨by rw [M2.out]; rfl, Dr.drewN _ _⟩
  · rw [hg] at e1
    have M2 := Lib.hid (show mixN x y k = 1065353216 by rw [M.out, hg]; rfl)
    clear hg
    go_wp2
    go_ret
    exact ⟨by rw [M2.out]; rfl, Dr.drewN _ _⟩

set_option maxRecDepth 100000 in
set_option maxHeartbeats 8000000 in
theorem eachTimes_any (a1 a2 a3 b1 b2 b3 : Nat) (w : World) :
    Calls Tryz.prog 141 #[.agg #[.float .f32 a1, .float .f32 a2, .float .f32 a3], .agg #[.float .f32 b1, .float .f32 b2, .float .f32 b3], .func (.func 84) #[] #[]] w fun e w' => e = .returned (.agg #[.float .f32 (filtC (a1, a2, a3) (b1, b2, b3)).1, .float .f32 (filtC (a1, a2, a3) (b1, b2, b3)).2.1, .float .f32 (filtC (a1, a2, a3) (b1, b2, b3)).2.2]) ∧ Below w.heap.size w w' := by
  obtain ⟨x, hx⟩ : ∃ x, x = mulB a1 b1 := ⟨_, rfl⟩
  obtain ⟨y, hy⟩ : ∃ y, y = mulB a2 b2 := ⟨_, rfl⟩
  obtain ⟨z, hz⟩ : ∃ z, z = mulB a3 b3 := ⟨_, rfl⟩
  have k1 := fun w => times_any a1 b1 w
  have k2 := fun w => times_any a2 b2 w
  have k3 := fun w => times_any a3 b3 w
  rw [← hx] at k1
  rw [← hy] at k2
  rw [← hz] at k3
  have K1 := Lib.hid k1
  have K2 := Lib.hid k2
  have K3 := Lib.hid k3
  have F := Lib.hid (show filtC (a1, a2, a3) (b1, b2, b3) = (x, y, z) by unfold filtC; rw [hx, hy, hz])
  rw [F.out]
  clear k1 k2 k3 hx hy hz
  go_enter Tryz.func141, Tryz.ntmps141
  go_wp2_with fail
  obtain ⟨W, hWe⟩ : ∃ W, W = ((w.alloc (Obj.cells #[.float .f32 a1, .float .f32 a2, .float .f32 a3] 26)).alloc (Obj.cells #[.float .f32 b1, .float .f32 b2, .float .f32 b3] 26)).alloc (Obj.cells #[.float .f32 0, .float .f32 0, .float .f32 0] 26) := ⟨_, rfl⟩
  have hW : Below w.heap.size w W := by rw [hWe]; (repeat (first | with_reducible assumption | exact Below.refl _ _ | (refine Below.setCell ?_ (by first | exact Nat.le_refl _ | (simp; done) | omega | (simp; omega)) _) | (refine below_drewN ?_ _) | (refine Below.drew ?_) | (refine Below.alloc ?_ (by first | exact Nat.le_refl _ | (simp; done) | omega | (simp; omega)) _) | (refine then_ ?_ (by with_reducible assumption)) | assumption | (refine then_ ?_ (by assumption))))
  have zW : W.heap.size = w.heap.size + 3 := by rw [hWe]; simp
  have c0 : W.cell? ⟨w.heap.size, 0, none⟩ = some (.float .f32 a1) := by rw [hWe]; simp [go_sem]
  have c1 : W.cell? ⟨w.heap.size, 1, none⟩ = some (.float .f32 a2) := by rw [hWe]; simp [go_sem]
  have c2 : W.cell? ⟨w.heap.size, 2, none⟩ = some (.float .f32 a3) := by rw [hWe]; simp [go_sem]
  have d0 : W.cell? ⟨w.heap.size + 1, 0, none⟩ = some (.float .f32 b1) := by rw [hWe]; simp [go_sem]
  have d1 : W.cell? ⟨w.heap.size + 1, 1, none⟩ = some (.float .f32 b2) := by rw [hWe]; simp [go_sem]
  have d2 : W.cell? ⟨w.heap.size + 1, 2, none⟩ = some (.float .f32 b3) := by rw [hWe]; simp [go_sem]
  have r0 : W.cell? ⟨w.heap.size + 1 + 1, 0, none⟩ = some (.float .f32 0) := by rw [hWe]; simp [go_sem]
  have r1 : W.cell? ⟨w.heap.size + 1 + 1, 1, none⟩ = some (.float .f32 0) := by rw [hWe]; simp [go_sem]
  have r2 : W.cell? ⟨w.heap.size + 1 + 1, 2, none⟩ = some (.float .f32 0) := by rw [hWe]; simp [go_sem]
  have rf : ∀ j, W.frozen? ⟨w.heap.size + 1 + 1, j, none⟩ = false := by intro j; rw [hWe]; simp [go_sem]
  have l2 : w.heap.size ≤ w.heap.size + 1 + 1 := by omega
  have lb0 : w.heap.size < W.heap.size := by omega
  have lb1 : w.heap.size + 1 < W.heap.size := by omega
  have lb2 : w.heap.size + 1 + 1 < W.heap.size := by omega
  have n0 : ¬ w.heap.size = w.heap.size + 1 + 1 := by omega
  have n1 : ¬ w.heap.size + 1 = w.heap.size + 1 + 1 := by omega
  have f0 := rf 0
  have f1 := rf 1
  have f2 := rf 2
  rw [← hWe]
  clear hWe zW
  go_region_held3 (fun w' => ∀ b o, b < W.heap.size → ¬ b = w.heap.size + 1 + 1 → w'.cell? ⟨b, o, none⟩ = W.cell? ⟨b, o, none⟩) (first | exact (fun _ _ _ _ => rfl) | assumption | exact holdSet (holdSet (holdSet (fun _ _ _ _ => rfl) _ _) _ _) _ _) (first
    | (go_at_call 84; (with_reducible refine (K1.out _).mono ?_); rintro e w' ⟨rfl, m1, rfl⟩)
    | (go_at_call 84; (with_reducible refine (K2.out _).mono ?_); rintro e w' ⟨rfl, m2, rfl⟩)
    | (go_at_call 84; (with_reducible refine (K3.out _).mono ?_); rintro e w' ⟨rfl, m3, rfl⟩))
  go_wp2
  refine bodyPost_ret (v := .agg #[.float .f32 x, .float .f32 y, .float .f32 z]) (by simp [results, Tryz.results141, go_sem, r0, r1, r2]) rfl ⟨rfl, ?_⟩
  exact (((below_drewN hW _).setCell l2 _).setCell l2 _).setCell l2 _

set_option maxRecDepth 100000 in
set_option maxHeartbeats 8000000 in
theorem eachMix_any (a1 a2 a3 b1 b2 b3 k g : Nat) (w : World) (h0 : w.cell? ⟨g, 0, none⟩ = some (.float .f32 k)) :
    Calls Tryz.prog 141 #[.agg #[.float .f32 a1, .float .f32 a2, .float .f32 a3], .agg #[.float .f32 b1, .float .f32 b2, .float .f32 b3], .func (.func 142) #[] #[.pointer (some ⟨g, 0, none⟩)]] w fun e w' => e = .returned (.agg #[.float .f32 (mixC (a1, a2, a3) (b1, b2, b3) k).1, .float .f32 (mixC (a1, a2, a3) (b1, b2, b3) k).2.1, .float .f32 (mixC (a1, a2, a3) (b1, b2, b3) k).2.2]) ∧ Below w.heap.size w w' := by
  obtain ⟨x, hx⟩ : ∃ x, x = mixN a1 b1 k := ⟨_, rfl⟩
  obtain ⟨y, hy⟩ : ∃ y, y = mixN a2 b2 k := ⟨_, rfl⟩
  obtain ⟨z, hz⟩ : ∃ z, z = mixN a3 b3 k := ⟨_, rfl⟩
  have k1 := fun w h => mixF_any a1 b1 k g w h
  have k2 := fun w h => mixF_any a2 b2 k g w h
  have k3 := fun w h => mixF_any a3 b3 k g w h
  rw [← hx] at k1
  rw [← hy] at k2
  rw [← hz] at k3
  have K1 := Lib.hid k1
  have K2 := Lib.hid k2
  have K3 := Lib.hid k3
  have F := Lib.hid (show mixC (a1, a2, a3) (b1, b2, b3) k = (x, y, z) by unfold mixC; rw [hx, hy, hz])
  rw [F.out]
  clear k1 k2 k3 hx hy hz
  go_enter Tryz.func141, Tryz.ntmps141
  go_wp2_with fail
  obtain ⟨W, hWe⟩ : ∃ W, W = ((w.alloc (Obj.cells #[.float .f32 a1, .float .f32 a2, .float .f32 a3] 26)).alloc (Obj.cells #[.float .f32 b1, .float .f32 b2, .float .f32 b3] 26)).alloc (Obj.cells #[.float .f32 0, .float .f32 0, .float .f32 0] 26) := ⟨_, rfl⟩
  have hW : Below w.heap.size w W := by rw [hWe]; (repeat (first | with_reducible assumption | exact Below.refl _ _ | (refine Below.setCell ?_ (by first | exact Nat.le_refl _ | (simp; done) | omega | (simp; omega)) _) | (refine below_drewN ?_ _) | (refine Below.drew ?_) | (refine Below.alloc ?_ (by first | exact Nat.le_refl _ | (simp; done) | omega | (simp; omega)) _) | (refine then_ ?_ (by with_reducible assumption)) | assumption | (refine then_ ?_ (by assumption))))
  have zW : W.heap.size = w.heap.size + 3 := by rw [hWe]; simp
  have c0 : W.cell? ⟨w.heap.size, 0, none⟩ = some (.float .f32 a1) := by rw [hWe]; simp [go_sem]
  have c1 : W.cell? ⟨w.heap.size, 1, none⟩ = some (.float .f32 a2) := by rw [hWe]; simp [go_sem]
  have c2 : W.cell? ⟨w.heap.size, 2, none⟩ = some (.float .f32 a3) := by rw [hWe]; simp [go_sem]
  have d0 : W.cell? ⟨w.heap.size + 1, 0, none⟩ = some (.float .f32 b1) := by rw [hWe]; simp [go_sem]
  have d1 : W.cell? ⟨w.heap.size + 1, 1, none⟩ = some (.float .f32 b2) := by rw [hWe]; simp [go_sem]
  have d2 : W.cell? ⟨w.heap.size + 1, 2, none⟩ = some (.float .f32 b3) := by rw [hWe]; simp [go_sem]
  have r0 : W.cell? ⟨w.heap.size + 1 + 1, 0, none⟩ = some (.float .f32 0) := by rw [hWe]; simp [go_sem]
  have r1 : W.cell? ⟨w.heap.size + 1 + 1, 1, none⟩ = some (.float .f32 0) := by rw [hWe]; simp [go_sem]
  have r2 : W.cell? ⟨w.heap.size + 1 + 1, 2, none⟩ = some (.float .f32 0) := by rw [hWe]; simp [go_sem]
  have rf : ∀ j, W.frozen? ⟨w.heap.size + 1 + 1, j, none⟩ = false := by intro j; rw [hWe]; simp [go_sem]
  have q0 : W.cell? ⟨g, 0, none⟩ = some (.float .f32 k) := keepC h0 hW
  have l2 : w.heap.size ≤ w.heap.size + 1 + 1 := by omega
  have lb0 : w.heap.size < W.heap.size := by omega
  have lb1 : w.heap.size + 1 < W.heap.size := by omega
  have lb2 : w.heap.size + 1 + 1 < W.heap.size := by omega
  have n0 : ¬ w.heap.size = w.heap.size + 1 + 1 := by omega
  have n1 : ¬ w.heap.size + 1 = w.heap.size + 1 + 1 := by omega
  have f0 := rf 0
  have f1 := rf 1
  have f2 := rf 2
  rw [← hWe]
  clear hWe zW
  go_region_held3 (fun w' => ∀ b o, b < W.heap.size → ¬ b = w.heap.size + 1 + 1 → w'.cell? ⟨b, o, none⟩ = W.cell? ⟨b, o, none⟩) (first | exact (fun _ _ _ _ => rfl) | assumption | exact holdSet (holdSet (holdSet (fun _ _ _ _ => rfl) _ _) _ _) _ _) (first
    | (go_at_call 142; (with_reducible refine (K1.out _ ?_).mono ?_); exact q0; rintro e w' ⟨rfl, m1, rfl⟩)
    | (go_at_call 142; (with_reducible refine (K2.out _ ?_).mono ?_); exact q0; rintro e w' ⟨rfl, m2, rfl⟩)
    | (go_at_call 142; (with_reducible refine (K3.out _ ?_).mono ?_); exact q0; rintro e w' ⟨rfl, m3, rfl⟩))
  go_wp2
  refine bodyPost_ret (v := .agg #[.float .f32 x, .float .f32 y, .float .f32 z]) (by simp [results, Tryz.results141, go_sem, r0, r1, r2]) rfl ⟨rfl, ?_⟩
  exact (((below_drewN hW _).setCell l2 _).setCell l2 _).setCell l2 _

set_option maxRecDepth 100000 in
set_option maxHeartbeats 4000000 in
theorem filter_yes (a1 a2 a3 b1 b2 b3 : Nat) (w : World) (ha : colB (a1, a2, a3) = true) (hb : colB (b1, b2, b3) = true) :
    Calls Tryz.prog 114 #[.agg #[.float .f32 a1, .float .f32 a2, .float .f32 a3], .agg #[.float .f32 b1, .float .f32 b2, .float .f32 b3]] w fun e w' => e = .returned (.agg #[.float .f32 (filtC (a1, a2, a3) (b1, b2, b3)).1, .float .f32 (filtC (a1, a2, a3) (b1, b2, b3)).2.1, .float .f32 (filtC (a1, a2, a3) (b1, b2, b3)).2.2]) ∧ Below w.heap.size w w' := by
  have KE := Lib.hid (fun w => eachTimes_any a1 a2 a3 b1 b2 b3 w)
  obtain ⟨q, hq⟩ : ∃ q, q = filtC (a1, a2, a3) (b1, b2, b3) := ⟨_, rfl⟩
  rw [← hq] at KE
  rw [← hq]
  obtain ⟨x, y, z⟩ := q
  dsimp only at KE ⊢
  clear hq
  go_enter Tryz.func114, Tryz.ntmps114
  go_wp2_with (first
    | (go_at_call 52; (with_reducible refine (isColour_any a1 a2 a3 _).mono ?_); rintro e w1 ⟨rfl, hb1⟩; simp only [ha]; have kc_0 := keepC (p := ⟨w.heap.size, 0, none⟩) (v := .float .f32 a1) (by first | assumption | (simp [go_sem]; done) | (simp [go_sem, *]; done)) hb1; have kc_1 := keepC (p := ⟨w.heap.size, 1, none⟩) (v := .float .f32 a2) (by first | assumption | (simp [go_sem]; done) | (simp [go_sem, *]; done)) hb1; have kc_2 := keepC (p := ⟨w.heap.size, 2, none⟩) (v := .float .f32 a3) (by first | assumption | (simp [go_sem]; done) | (simp [go_sem, *]; done)) hb1; have lb_ := (show w.heap.size < _ from World.block_lt_of_cell? _ _ kc_0); have kc1_0 := keepC (p := ⟨w.heap.size + 1, 0, none⟩) (v := .float .f32 b1) (by first | assumption | (simp [go_sem]; done) | (simp [go_sem, *]; done)) hb1; have kc1_1 := keepC (p := ⟨w.heap.size + 1, 1, none⟩) (v := .float .f32 b2) (by first | assumption | (simp [go_sem]; done) | (simp [go_sem, *]; done)) hb1; have kc1_2 := keepC (p := ⟨w.heap.size + 1, 2, none⟩) (v := .float .f32 b3) (by first | assumption | (simp [go_sem]; done) | (simp [go_sem, *]; done)) hb1; have lb1_ := (show w.heap.size + 1 < _ from World.block_lt_of_cell? _ _ kc1_0); have kf11_0 := keepF (p := ⟨w.heap.size + 1 + 1, 0, none⟩) (v := .float .f32 0) (by first | assumption | (simp [go_sem]; done) | (simp [go_sem, *]; done)) (by first | assumption | (simp [go_sem]; done) | (simp [go_sem, *]; done)) hb1; have kf11_1 := keepF (p := ⟨w.heap.size + 1 + 1, 1, none⟩) (v := .float .f32 0) (by first | assumption | (simp [go_sem]; done) | (simp [go_sem, *]; done)) (by first | assumption | (simp [go_sem]; done) | (simp [go_sem, *]; done)) hb1; have kf11_2 := keepF (p := ⟨w.heap.size + 1 + 1, 2, none⟩) (v := .float .f32 0) (by first | assumption | (simp [go_sem]; done) | (simp [go_sem, *]; done)) (by first | assumption | (simp [go_sem]; done) | (simp [go_sem, *]; done)) hb1; have kc11_0 := keepC (p := ⟨w.heap.size + 1 + 1, 0, none⟩) (v := .float .f32 0) (by first | assumption | (simp [go_sem]; done) | (simp [go_sem, *]; done)) hb1; have kc11_1 := keepC (p := ⟨w.heap.size + 1 + 1, 1, none⟩) (v := .float .f32 0) (by first | assumption | (simp [go_sem]; done) | (simp [go_sem, *]; done)) hb1; have kc11_2 := keepC (p := ⟨w.heap.size + 1 + 1, 2, none⟩) (v := .float .f32 0) (by first | assumption | (simp [go_sem]; done) | (simp [go_sem, *]; done)) hb1; have lb11_ := (show w.heap.size + 1 + 1 < _ from World.block_lt_of_cell? _ _ kc11_0))
    | (go_at_call 52; (with_reducible refine (isColour_any b1 b2 b3 _).mono ?_); rintro e w1 ⟨rfl, hb1⟩; simp only [hb]; have kc_0 := keepC (p := ⟨w.heap.size, 0, none⟩) (v := .float .f32 a1) (by first | assumption | (simp [go_sem]; done) | (simp [go_sem, *]; done)) hb1; have kc_1 := keepC (p := ⟨w.heap.size, 1, none⟩) (v := .float .f32 a2) (by first | assumption | (simp [go_sem]; done) | (simp [go_sem, *]; done)) hb1; have kc_2 := keepC (p := ⟨w.heap.size, 2, none⟩) (v := .float .f32 a3) (by first | assumption | (simp [go_sem]; done) | (simp [go_sem, *]; done)) hb1; have lb_ := (show w.heap.size < _ from World.block_lt_of_cell? _ _ kc_0); have kc1_0 := keepC (p := ⟨w.heap.size + 1, 0, none⟩) (v := .float .f32 b1) (by first | assumption | (simp [go_sem]; done) | (simp [go_sem, *]; done)) hb1; have kc1_1 := keepC (p := ⟨w.heap.size + 1, 1, none⟩) (v := .float .f32 b2) (by first | assumption | (simp [go_sem]; done) | (simp [go_sem, *]; done)) hb1; have kc1_2 := keepC (p := ⟨w.heap.size + 1, 2, none⟩) (v := .float .f32 b3) (by first | assumption | (simp [go_sem]; done) | (simp [go_sem, *]; done)) hb1; have lb1_ := (show w.heap.size + 1 < _ from World.block_lt_of_cell? _ _ kc1_0); have kf11_0 := keepF (p := ⟨w.heap.size + 1 + 1, 0, none⟩) (v := .float .f32 0) (by first | assumption | (simp [go_sem]; done) | (simp [go_sem, *]; done)) (by first | assumption | (simp [go_sem]; done) | (simp [go_sem, *]; done)) hb1; have kf11_1 := keepF (p := ⟨w.heap.size + 1 + 1, 1, none⟩) (v := .float .f32 0) (by first | assumption | (simp [go_sem]; done) | (simp [go_sem, *]; done)) (by first | assumption | (simp [go_sem]; done) | (simp [go_sem, *]; done)) hb1; have kf11_2 := keepF (p := ⟨w.heap.size + 1 + 1, 2, none⟩) (v := .float .f32 0) (by first | assumption | (simp [go_sem]; done) | (simp [go_sem, *]; done)) (by first | assumption | (simp [go_sem]; done) | (simp [go_sem, *]; done)) hb1; have kc11_0 := keepC (p := ⟨w.heap.size + 1 + 1, 0, none⟩) (v := .float .f32 0) (by first | assumption | (simp [go_sem]; done) | (simp [go_sem, *]; done)) hb1; have kc11_1 := keepC (p := ⟨w.heap.size + 1 + 1, 1, none⟩) (v := .float .f32 0) (by first | assumption | (simp [go_sem]; done) | (simp [go_sem, *]; done)) hb1; have kc11_2 := keepC (p := ⟨w.heap.size + 1 + 1, 2, none⟩) (v := .float .f32 0) (by first | assumption | (simp [go_sem]; done) | (simp [go_sem, *]; done)) hb1; have lb11_ := (show w.heap.size + 1 + 1 < _ from World.block_lt_of_cell? _ _ kc11_0))
    | (go_at_call 141; (with_reducible refine (KE.out _).mono ?_); rintro e w2 ⟨rfl, hb2⟩; have kf11_0 := keepF (p := ⟨w.heap.size + 1 + 1, 0, none⟩) (v := .float .f32 0) (by first | assumption | (simp [go_sem]; done) | (simp [go_sem, *]; done)) (by first | assumption | (simp [go_sem]; done) | (simp [go_sem, *]; done)) hb2; have kf11_1 := keepF (p := ⟨w.heap.size + 1 + 1, 1, none⟩) (v := .float .f32 0) (by first | assumption | (simp [go_sem]; done) | (simp [go_sem, *]; done)) (by first | assumption | (simp [go_sem]; done) | (simp [go_sem, *]; done)) hb2; have kf11_2 := keepF (p := ⟨w.heap.size + 1 + 1, 2, none⟩) (v := .float .f32 0) (by first | assumption | (simp [go_sem]; done) | (simp [go_sem, *]; done)) (by first | assumption | (simp [go_sem]; done) | (simp [go_sem, *]; done)) hb2; have kc11_0 := keepC (p := ⟨w.heap.size + 1 + 1, 0, none⟩) (v := .float .f32 0) (by first | assumption | (simp [go_sem]; done) | (simp [go_sem, *]; done)) hb2; have kc11_1 := keepC (p := ⟨w.heap.size + 1 + 1, 1, none⟩) (v := .float .f32 0) (by first | assumption | (simp [go_sem]; done) | (simp [go_sem, *]; done)) hb2; have kc11_2 := keepC (p := ⟨w.heap.size + 1 + 1, 2, none⟩) (v := .float .f32 0) (by first | assumption | (simp [go_sem]; done) | (simp [go_sem, *]; done)) hb2; have lb11_ := (show w.heap.size + 1 + 1 < _ from World.block_lt_of_cell? _ _ kc11_0)))
  refine bodyPost_ret (v := .agg #[.float .f32 x, .float .f32 y, .float .f32 z]) (by simp [results, Tryz.results114, go_sem, *]) rfl ⟨rfl, by (repeat (first | with_reducible assumption | exact Below.refl _ _ | (refine Below.setCell ?_ (by first | exact Nat.le_refl _ | (simp; done) | omega | (simp; omega)) _) | (refine below_drewN ?_ _) | (refine Below.drew ?_) | (refine Below.alloc ?_ (by first | exact Nat.le_refl _ | (simp; done) | omega | (simp; omega)) _) | (refine then_ ?_ (by with_reducible assumption)) | assumption | (refine then_ ?_ (by assumption))))⟩

set_option maxRecDepth 100000 in
set_option maxHeartbeats 4000000 in
theorem mix_yes (a1 a2 a3 b1 b2 b3 k : Nat) (w : World) (ha : colB (a1, a2, a3) = true) (hb : colB (b1, b2, b3) = true) (hk : partB k = true) :
    Calls Tryz.prog 113 #[.agg #[.float .f32 a1, .float .f32 a2, .float .f32 a3], .agg #[.float .f32 b1, .float .f32 b2, .float .f32 b3], .float .f32 k] w fun e w' => e = .returned (.agg #[.float .f32 (mixC (a1, a2, a3) (b1, b2, b3) k).1, .float .f32 (mixC (a1, a2, a3) (b1, b2, b3) k).2.1, .float .f32 (mixC (a1, a2, a3) (b1, b2, b3) k).2.2]) ∧ Below w.heap.size w w' := by
  have KE := Lib.hid (fun g w h => eachMix_any a1 a2 a3 b1 b2 b3 k g w h)
  obtain ⟨q, hq⟩ : ∃ q, q = mixC (a1, a2, a3) (b1, b2, b3) k := ⟨_, rfl⟩
  rw [← hq] at KE
  rw [← hq]
  obtain ⟨x, y, z⟩ := q
  dsimp only at KE ⊢
  clear hq
  go_enter Tryz.func113, Tryz.ntmps113
  go_wp2_with (first
    | (go_at_call 52; (with_reducible refine (isColour_any a1 a2 a3 _).mono ?_); rintro e w1 ⟨rfl, hb1⟩; simp only [ha]; have kc_0 := keepC (p := ⟨w.heap.size, 0, none⟩) (v := .float .f32 a1) (by first | assumption | (simp [go_sem]; done) | (simp [go_sem, *]; done)) hb1; have kc_1 := keepC (p := ⟨w.heap.size, 1, none⟩) (v := .float .f32 a2) (by first | assumption | (simp [go_sem]; done) | (simp [go_sem, *]; done)) hb1; have kc_2 := keepC (p := ⟨w.heap.size, 2, none⟩) (v := .float .f32 a3) (by first | assumption | (simp [go_sem]; done) | (simp [go_sem, *]; done)) hb1; have lb_ := (show w.heap.size < _ from World.block_lt_of_cell? _ _ kc_0); have kc1_0 := keepC (p := ⟨w.heap.size + 1, 0, none⟩) (v := .float .f32 b1) (by first | assumption | (simp [go_sem]; done) | (simp [go_sem, *]; done)) hb1; have kc1_1 := keepC (p := ⟨w.heap.size + 1, 1, none⟩) (v := .float .f32 b2) (by first | assumption | (simp [go_sem]; done) | (simp [go_sem, *]; done)) hb1; have kc1_2 := keepC (p := ⟨w.heap.size + 1, 2, none⟩) (v := .float .f32 b3) (by first | assumption | (simp [go_sem]; done) | (simp [go_sem, *]; done)) hb1; have lb1_ := (show w.heap.size + 1 < _ from World.block_lt_of_cell? _ _ kc1_0); have kc11_0 := keepC (p := ⟨w.heap.size + 1 + 1, 0, none⟩) (v := .float .f32 k) (by first | assumption | (simp [go_sem]; done) | (simp [go_sem, *]; done)) hb1; have lb11_ := (show w.heap.size + 1 + 1 < _ from World.block_lt_of_cell? _ _ kc11_0); have kf111_0 := keepF (p := ⟨w.heap.size + 1 + 1 + 1, 0, none⟩) (v := .float .f32 0) (by first | assumption | (simp [go_sem]; done) | (simp [go_sem, *]; done)) (by first | assumption | (simp [go_sem]; done) | (simp [go_sem, *]; done)) hb1; have kf111_1 := keepF (p := ⟨w.heap.size + 1 + 1 + 1, 1, none⟩) (v := .float .f32 0) (by first | assumption | (simp [go_sem]; done) | (simp [go_sem, *]; done)) (by first | assumption | (simp [go_sem]; done) | (simp [go_sem, *]; done)) hb1; have kf111_2 := keepF (p := ⟨w.heap.size + 1 + 1 + 1, 2, none⟩) (v := .float .f32 0) (by first | assumption | (simp [go_sem]; done) | (simp [go_sem, *]; done)) (by first | assumption | (simp [go_sem]; done) | (simp [go_sem, *]; done)) hb1; have kc111_0 := keepC (p := ⟨w.heap.size + 1 + 1 + 1, 0, none⟩) (v := .float .f32 0) (by first | assumption | (simp [go_sem]; done) | (simp [go_sem, *]; done)) hb1; have kc111_1 := keepC (p := ⟨w.heap.size + 1 + 1 + 1, 1, none⟩) (v := .float .f32 0) (by first | assumption | (simp [go_sem]; done) | (simp [go_sem, *]; done)) hb1; have kc111_2 := keepC (p := ⟨w.heap.size + 1 + 1 + 1, 2, none⟩) (v := .float .f32 0) (by first | assumption | (simp [go_sem]; done) | (simp [go_sem, *]; done)) hb1; have lb111_ := (show w.heap.size + 1 + 1 + 1 < _ from World.block_lt_of_cell? _ _ kc111_0))
    | (go_at_call 52; (with_reducible refine (isColour_any b1 b2 b3 _).mono ?_); rintro e w1 ⟨rfl, hb1⟩; simp only [hb]; have kc_0 := keepC (p := ⟨w.heap.size, 0, none⟩) (v := .float .f32 a1) (by first | assumption | (simp [go_sem]; done) | (simp [go_sem, *]; done)) hb1; have kc_1 := keepC (p := ⟨w.heap.size, 1, none⟩) (v := .float .f32 a2) (by first | assumption | (simp [go_sem]; done) | (simp [go_sem, *]; done)) hb1; have kc_2 := keepC (p := ⟨w.heap.size, 2, none⟩) (v := .float .f32 a3) (by first | assumption | (simp [go_sem]; done) | (simp [go_sem, *]; done)) hb1; have lb_ := (show w.heap.size < _ from World.block_lt_of_cell? _ _ kc_0); have kc1_0 := keepC (p := ⟨w.heap.size + 1, 0, none⟩) (v := .float .f32 b1) (by first | assumption | (simp [go_sem]; done) | (simp [go_sem, *]; done)) hb1; have kc1_1 := keepC (p := ⟨w.heap.size + 1, 1, none⟩) (v := .float .f32 b2) (by first | assumption | (simp [go_sem]; done) | (simp [go_sem, *]; done)) hb1; have kc1_2 := keepC (p := ⟨w.heap.size + 1, 2, none⟩) (v := .float .f32 b3) (by first | assumption | (simp [go_sem]; done) | (simp [go_sem, *]; done)) hb1; have lb1_ := (show w.heap.size + 1 < _ from World.block_lt_of_cell? _ _ kc1_0); have kc11_0 := keepC (p := ⟨w.heap.size + 1 + 1, 0, none⟩) (v := .float .f32 k) (by first | assumption | (simp [go_sem]; done) | (simp [go_sem, *]; done)) hb1; have lb11_ := (show w.heap.size + 1 + 1 < _ from World.block_lt_of_cell? _ _ kc11_0); have kf111_0 := keepF (p := ⟨w.heap.size + 1 + 1 + 1, 0, none⟩) (v := .float .f32 0) (by first | assumption | (simp [go_sem]; done) | (simp [go_sem, *]; done)) (by first | assumption | (simp [go_sem]; done) | (simp [go_sem, *]; done)) hb1; have kf111_1 := keepF (p := ⟨w.heap.size + 1 + 1 + 1, 1, none⟩) (v := .float .f32 0) (by first | assumption | (simp [go_sem]; done) | (simp [go_sem, *]; done)) (by first | assumption | (simp [go_sem]; done) | (simp [go_sem, *]; done)) hb1; have kf111_2 := keepF (p := ⟨w.heap.size + 1 + 1 + 1, 2, none⟩) (v := .float .f32 0) (by first | assumption | (simp [go_sem]; done) | (simp [go_sem, *]; done)) (by first | assumption | (simp [go_sem]; done) | (simp [go_sem, *]; done)) hb1; have kc111_0 := keepC (p := ⟨w.heap.size + 1 + 1 + 1, 0, none⟩) (v := .float .f32 0) (by first | assumption | (simp [go_sem]; done) | (simp [go_sem, *]; done)) hb1; have kc111_1 := keepC (p := ⟨w.heap.size + 1 + 1 + 1, 1, none⟩) (v := .float .f32 0) (by first | assumption | (simp [go_sem]; done) | (simp [go_sem, *]; done)) hb1; have kc111_2 := keepC (p := ⟨w.heap.size + 1 + 1 + 1, 2, none⟩) (v := .float .f32 0) (by first | assumption | (simp [go_sem]; done) | (simp [go_sem, *]; done)) hb1; have lb111_ := (show w.heap.size + 1 + 1 + 1 < _ from World.block_lt_of_cell? _ _ kc111_0))
    | (go_at_call 95; (with_reducible refine (isPart_any _ _).mono ?_); rintro e w' ⟨rfl, rfl⟩; simp only [hk])
    | (go_at_call 141; (with_reducible refine (KE.out _ _ ?_).mono ?_); assumption; rintro e w2 ⟨rfl, hb2⟩; have kf111_0 := keepF (p := ⟨w.heap.size + 1 + 1 + 1, 0, none⟩) (v := .float .f32 0) (by first | assumption | (simp [go_sem]; done) | (simp [go_sem, *]; done)) (by first | assumption | (simp [go_sem]; done) | (simp [go_sem, *]; done)) hb2; have kf111_1 := keepF (p := ⟨w.heap.size + 1 + 1 + 1, 1, none⟩) (v := .float .f32 0) (by first | assumption | (simp [go_sem]; done) | (simp [go_sem, *]; done)) (by first | assumption | (simp [go_sem]; done) | (simp [go_sem, *]; done)) hb2; have kf111_2 := keepF (p := ⟨w.heap.size + 1 + 1 + 1, 2, none⟩) (v := .float .f32 0) (by first | assumption | (simp [go_sem]; done) | (simp [go_sem, *]; done)) (by first | assumption | (simp [go_sem]; done) | (simp [go_sem, *]; done)) hb2; have kc111_0 := keepC (p := ⟨w.heap.size + 1 + 1 + 1, 0, none⟩) (v := .float .f32 0) (by first | assumption | (simp [go_sem]; done) | (simp [go_sem, *]; done)) hb2; have kc111_1 := keepC (p := ⟨w.heap.size + 1 + 1 + 1, 1, none⟩) (v := .float .f32 0) (by first | assumption | (simp [go_sem]; done) | (simp [go_sem, *]; done)) hb2; have kc111_2 := keepC (p := ⟨w.heap.size + 1 + 1 + 1, 2, none⟩) (v := .float .f32 0) (by first | assumption | (simp [go_sem]; done) | (simp [go_sem, *]; done)) hb2; have lb111_ := (show w.heap.size + 1 + 1 + 1 < _ from World.block_lt_of_cell? _ _ kc111_0)))
  refine bodyPost_ret (v := .agg #[.float .f32 x, .float .f32 y, .float .f32 z]) (by simp [results, Tryz.results113, go_sem, *]) rfl ⟨rfl, by (repeat (first | with_reducible assumption | exact Below.refl _ _ | (refine Below.setCell ?_ (by first | exact Nat.le_refl _ | (simp; done) | omega | (simp; omega)) _) | (refine below_drewN ?_ _) | (refine Below.drew ?_) | (refine Below.alloc ?_ (by first | exact Nat.le_refl _ | (simp; done) | omega | (simp; omega)) _) | (refine then_ ?_ (by with_reducible assumption)) | assumption | (refine then_ ?_ (by assumption))))⟩
end Go.Proofs.YthlphmojldbpkaaGreat
