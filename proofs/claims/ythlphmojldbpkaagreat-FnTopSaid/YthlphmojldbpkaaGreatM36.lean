/- MoveSh · Cell · CellTo · First · IsPic · EqS · ToS -/
import Derived.Test.YthlphmojldbpkaaGreatM16
import Derived.Test.YthlphmojldbpkaaGreatM3
import Derived.Deep.RegionHeld3
import Derived.Deep.RegionLaw
import Derived.Deep.CutRange
import Derived.Test.YthlphmojldbpkaaGreatM0
import Derived.Laws.FloatArith
import Derived.Test.YthlphmojldbpkaaGreatM1
import Derived.Laws.OwnMore

/- MoveShard: the program's, of valid glass. -/
namespace Go.Proofs.YthlphmojldbpkaaGreat
open Go.RowKit
attribute [local go_sem] run_store_float run_store_complex

def moveSh (s : Sh) (z : Pt) : Sh := (plusP s.1 z, plusP s.2.1 z, plusP s.2.2.1 z, s.2.2.2.1, s.2.2.2.2)
/-- what MoveShard answers -/
def MovR (ok : Bool) (yes no : Array Value) (e : Ending) : Prop := e = .returned (.tuple #[.agg (bif ok then yes else no), .bool ok])
set_option maxHeartbeats 4000000 in
theorem isShard_move (a c d : Pt) (r g l q : Nat) (w : World) (h4 : colB (r, g, l) = true) (h5 : partB q = true) :
    Calls Tryz.prog 75 #[.agg #[.complex .f32 a.1 a.2, .complex .f32 c.1 c.2, .complex .f32 d.1 d.2, .float .f32 r, .float .f32 g, .float .f32 l, .float .f32 q]] w fun e w' => e = .returned (.bool (okSh (a, c, d, (r, g, l), q))) ∧ Below w.heap.size w w' := by
  have e : okSh (a, c, d, (r, g, l), q) = (pointB a.1 a.2 && (pointB c.1 c.2 && pointB d.1 d.2)) := by
    unfold okSh
    dsimp only
    rw [h4, h5]
    simp
  rw [e]
  clear e
  cases h1 : pointB a.1 a.2
  case' true =>
    cases h2 : pointB c.1 c.2
    case' true => cases h3 : pointB d.1 d.2
  all_goals
    go_enter Tryz.func75, Tryz.ntmps75
    go_wp2_with (first
      | (go_at_call 42; (with_reducible refine (isPoint_any a.1 a.2 _).mono ?_); rintro e w' ⟨rfl, rfl⟩; simp only [h1])
      | (go_at_call 42; (with_reducible refine (isPoint_any c.1 c.2 _).mono ?_); rintro e w' ⟨rfl, rfl⟩; simp only [h2])
      | (go_at_call 42; (with_reducible refine (isPoint_any d.1 d.2 _).mono ?_); rintro e w' ⟨rfl, rfl⟩; simp only [h3])
      | (go_at_call 52; (with_reducible refine (isColour_any r g l _).mono ?_); rintro e w1 ⟨rfl, hb1⟩; simp only [h4]; have kq := keepC (p := ⟨w.heap.size, 6, none⟩) (v := .float .f32 q) (by simp [go_sem]) hb1; have lq := (show w.heap.size < w1.heap.size from World.block_lt_of_cell? _ _ kq))
      | (go_at_call 95; (with_reducible refine (isPart_any _ _).mono ?_); rintro e w' ⟨rfl, rfl⟩; simp only [h5]))
    go_ret
    exact ⟨rfl, by (repeat (first | with_reducible assumption | exact Below.refl _ _ | (refine Below.setCell ?_ (by first | exact Nat.le_refl _ | (simp; done) | omega | (simp; omega)) _) | (refine below_drewN ?_ _) | (refine Below.drew ?_) | (refine Below.alloc ?_ (by first | exact Nat.le_refl _ | (simp; done) | omega | (simp; omega)) _) | (refine then_ ?_ (by with_reducible assumption)) | assumption | (refine then_ ?_ (by assumption))))⟩

set_option maxRecDepth 100000 in
set_option maxHeartbeats 8000000 in
theorem moveShard_lit (a c d : Pt) (r g l q : Nat) (z : Pt) (w : World) (h : okSh (a, c, d, (r, g, l), q) = true) (hz : pointB z.1 z.2 = true) :
    Calls Tryz.prog 37 #[.agg #[.complex .f32 a.1 a.2, .complex .f32 c.1 c.2, .complex .f32 d.1 d.2, .float .f32 r, .float .f32 g, .float .f32 l, .float .f32 q], .complex .f32 z.1 z.2] w fun e w' => MovR (okSh (moveSh (a, c, d, (r, g, l), q) z)) #[.complex .f32 (moveSh (a, c, d, (r, g, l), q) z).1.1 (moveSh (a, c, d, (r, g, l), q) z).1.2, .complex .f32 (moveSh (a, c, d, (r, g, l), q) z).2.1.1 (moveSh (a, c, d, (r, g, l), q) z).2.1.2, .complex .f32 (moveSh (a, c, d, (r, g, l), q) z).2.2.1.1 (moveSh (a, c, d, (r, g, l), q) z).2.2.1.2, .float .f32 (moveSh (a, c, d, (r, g, l), q) z).2.2.2.1.1, .float .f32 (moveSh (a, c, d, (r, g, l), q) z).2.2.2.1.2.1, .float .f32 (moveSh (a, c, d, (r, g, l), q) z).2.2.2.1.2.2, .float .f32 (moveSh (a, c, d, (r, g, l), q) z).2.2.2.2] #[.complex .f32 a.1 a.2, .complex .f32 c.1 c.2, .complex .f32 d.1 d.2, .float .f32 r, .float .f32 g, .float .f32 l, .float .f32 q] e ∧ Below w.heap.size w w' := by
  obtain ⟨P1, hP1⟩ : ∃ P, P = plusP a z := ⟨_, rfl⟩
  obtain ⟨P2, hP2⟩ : ∃ P, P = plusP c z := ⟨_, rfl⟩
  obtain ⟨P3, hP3⟩ : ∃ P, P = plusP d z := ⟨_, rfl⟩
  have em : moveSh (a, c, d, (r, g, l), q) z = (P1, P2, P3, (r, g, l), q) := by unfold moveSh; rw [hP1, hP2, hP3]
  have k1 := fun w => plus_any a z w
  have k2 := fun w => plus_any c z w
  have k3 := fun w => plus_any d z w
  rw [← hP1] at k1
  rw [← hP2] at k2
  rw [← hP3] at k3
  obtain ⟨_, _, _, h4, h5⟩ := okSh_parts h
  dsimp only at h4 h5
  have km := fun w => isShard_move P1 P2 P3 r g l q w h4 h5
  rw [em]
  obtain ⟨ok, hok⟩ : ∃ ok, ok = okSh (P1, P2, P3, (r, g, l), q) := ⟨_, rfl⟩
  rw [← hok] at km ⊢
  have K1 := Lib.hid k1
  have K2 := Lib.hid k2
  have K3 := Lib.hid k3
  have KM := Lib.hid km
  have KS := Lib.hid (fun w => isShard_yes a c d r g l q w h)
  clear k1 k2 k3 hP1 hP2 hP3 km em hok h h4 h5
  go_enter Tryz.func37, Tryz.ntmps37
  go_upto_region 2 with fail
  have hW := Below.refl w.heap.size w
  have ca := CA.new w #[.complex .f32 a.1 a.2, .complex .f32 c.1 c.2, .complex .f32 d.1 d.2, .float .f32 r, .float .f32 g, .float .f32 l, .float .f32 q] 36; have fa := FA.new w #[.complex .f32 a.1 a.2, .complex .f32 c.1 c.2, .complex .f32 d.1 d.2, .float .f32 r, .float .f32 g, .float .f32 l, .float .f32 q] 36; replace hW := hW.alloc (hW.size) (Obj.cells #[.complex .f32 a.1 a.2, .complex .f32 c.1 c.2, .complex .f32 d.1 d.2, .float .f32 r, .float .f32 g, .float .f32 l, .float .f32 q] 36); obtain ⟨V1, hV1e⟩ : ∃ V1, V1 = w.alloc (Obj.cells #[.complex .f32 a.1 a.2, .complex .f32 c.1 c.2, .complex .f32 d.1 d.2, .float .f32 r, .float .f32 g, .float .f32 l, .float .f32 q] 36) := ⟨_, rfl⟩; have zV1 : V1.heap.size = w.heap.size + 1 := (by rw [hV1e]; simp); rw [← hV1e] at ca fa hW; rw [← hV1e]; clear hV1e; have la := ca.lt
  have co := CA.new V1 #[.complex .f32 0 0, .complex .f32 0 0, .complex .f32 0 0, .float .f32 0, .float .f32 0, .float .f32 0, .float .f32 0] 36; have fo := FA.new V1 #[.complex .f32 0 0, .complex .f32 0 0, .complex .f32 0 0, .float .f32 0, .float .f32 0, .float .f32 0, .float .f32 0] 36; replace ca := ca.alloc (Obj.cells #[.complex .f32 0 0, .complex .f32 0 0, .complex .f32 0 0, .float .f32 0, .float .f32 0, .float .f32 0, .float .f32 0] 36); replace fa := fa.alloc la (Obj.cells #[.complex .f32 0 0, .complex .f32 0 0, .complex .f32 0 0, .float .f32 0, .float .f32 0, .float .f32 0, .float .f32 0] 36); replace hW := hW.alloc (hW.size) (Obj.cells #[.complex .f32 0 0, .complex .f32 0 0, .complex .f32 0 0, .float .f32 0, .float .f32 0, .float .f32 0, .float .f32 0] 36); obtain ⟨V2, hV2e⟩ : ∃ V2, V2 = V1.alloc (Obj.cells #[.complex .f32 0 0, .complex .f32 0 0, .complex .f32 0 0, .float .f32 0, .float .f32 0, .float .f32 0, .float .f32 0] 36) := ⟨_, rfl⟩; have zV2 : V2.heap.size = V1.heap.size + 1 := (by rw [hV2e]; simp); rw [← hV2e] at co fo ca fa hW; rw [← hV2e]; clear hV2e; have lo := co.lt; replace la := ca.lt
  have cx := CA.new V2 #[.complex .f32 a.1 a.2, .complex .f32 c.1 c.2, .complex .f32 d.1 d.2, .float .f32 r, .float .f32 g, .float .f32 l, .float .f32 q] 36; have fx := FA.new V2 #[.complex .f32 a.1 a.2, .complex .f32 c.1 c.2, .complex .f32 d.1 d.2, .float .f32 r, .float .f32 g, .float .f32 l, .float .f32 q] 36; replace ca := ca.alloc (Obj.cells #[.complex .f32 a.1 a.2, .complex .f32 c.1 c.2, .complex .f32 d.1 d.2, .float .f32 r, .float .f32 g, .float .f32 l, .float .f32 q] 36); replace fa := fa.alloc la (Obj.cells #[.complex .f32 a.1 a.2, .complex .f32 c.1 c.2, .complex .f32 d.1 d.2, .float .f32 r, .float .f32 g, .float .f32 l, .float .f32 q] 36); replace co := co.alloc (Obj.cells #[.complex .f32 a.1 a.2, .complex .f32 c.1 c.2, .complex .f32 d.1 d.2, .float .f32 r, .float .f32 g, .float .f32 l, .float .f32 q] 36); replace fo := fo.alloc lo (Obj.cells #[.complex .f32 a.1 a.2, .complex .f32 c.1 c.2, .complex .f32 d.1 d.2, .float .f32 r, .float .f32 g, .float .f32 l, .float .f32 q] 36); replace hW := hW.alloc (hW.size) (Obj.cells #[.complex .f32 a.1 a.2, .complex .f32 c.1 c.2, .complex .f32 d.1 d.2, .float .f32 r, .float .f32 g, .float .f32 l, .float .f32 q] 36); obtain ⟨W, hWe⟩ : ∃ W, W = V2.alloc (Obj.cells #[.complex .f32 a.1 a.2, .complex .f32 c.1 c.2, .complex .f32 d.1 d.2, .float .f32 r, .float .f32 g, .float .f32 l, .float .f32 q] 36) := ⟨_, rfl⟩; have zW : W.heap.size = V2.heap.size + 1 := (by rw [hWe]; simp); rw [← hWe] at cx fx ca fa co fo hW; rw [← hWe]; clear hWe; have lx := cx.lt; replace la := ca.lt; replace lo := co.lt
  rw [zV1] at co fo lo zV2
  rw [zV2] at cx fx lx zW
  clear zV1 zV2
  have l0 := la
  have l1 := lo
  have l2 := lx
  clear zW
  have le1 : w.heap.size ≤ w.heap.size + 1 := by omega
  have le2 : w.heap.size ≤ w.heap.size + 1 + 1 := by omega
  have n02 : ¬ w.heap.size = w.heap.size + 1 + 1 := by omega
  have n12 : ¬ w.heap.size + 1 = w.heap.size + 1 + 1 := by omega
  have a0 := ca 0 _ rfl; have a1 := ca 1 _ rfl; have a2 := ca 2 _ rfl; have a3 := ca 3 _ rfl; have a4 := ca 4 _ rfl; have a5 := ca 5 _ rfl; have a6 := ca 6 _ rfl
  have x0 := cx 0 _ rfl; have x1 := cx 1 _ rfl; have x2 := cx 2 _ rfl; have x3 := cx 3 _ rfl; have x4 := cx 4 _ rfl; have x5 := cx 5 _ rfl; have x6 := cx 6 _ rfl
  have f0 := fx 0; have f1 := fx 1; have f2 := fx 2; have f3 := fx 3; have f4 := fx 4; have f5 := fx 5; have f6 := fx 6
  go_cut [11, 15, 19] (fun _ _ _ wx => ∃ wy : World, wx = (((wy.setCell ⟨w.heap.size + 1 + 1, 0, none⟩ (.complex .f32 P1.1 P1.2)).setCell ⟨w.heap.size + 1 + 1, 1, none⟩ (.complex .f32 P2.1 P2.2)).setCell ⟨w.heap.size + 1 + 1, 2, none⟩ (.complex .f32 P3.1 P3.2)) ∧ Below W.heap.size W wy)
  case first =>
    refine wp_region_T (fun v => ∀ b o, b < W.heap.size → v.cell? ⟨b, o, none⟩ = W.cell? ⟨b, o, none⟩) (fun j => decide (13 ≤ j)) (by kernel_rfl) (fun _ _ _ => rfl) (fun hHeld => ?_)
    refine wpAnyT_take (i := 0) (v := .pointer (some ⟨w.heap.size, 0, none⟩)) rfl (by kernel_rfl) (by kernel_rfl) (by kernel_rfl) (by kernel_rfl) (fun _ _ _ h => h) (Or.inl ⟨by rfl, (by intro wz hSz; (try dsimp only at hSz); go_simp)⟩) hHeld ?_
    try simp only [Act.put, List.setIfInBounds_toArray]
    refine wpAnyT_take (i := 4) (v := .pointer (some ⟨w.heap.size, 1, none⟩)) rfl (by kernel_rfl) (by kernel_rfl) (by kernel_rfl) (by kernel_rfl) (fun _ _ _ h => h) (Or.inl ⟨by rfl, (by intro wz hSz; (try dsimp only at hSz); go_simp)⟩) hHeld ?_
    try simp only [Act.put]
    refine wpAnyT_take (i := 8) (v := .pointer (some ⟨w.heap.size, 2, none⟩)) rfl (by kernel_rfl) (by kernel_rfl) (by kernel_rfl) (by kernel_rfl) (fun _ _ _ h => h) (Or.inl ⟨by rfl, (by intro wz hSz; (try dsimp only at hSz); go_simp)⟩) hHeld ?_
    try simp only [Act.put]
    refine wpAnyT_take (i := 1) (v := .complex .f32 a.1 a.2) rfl (by kernel_rfl) (by kernel_rfl) (by kernel_rfl) (by kernel_rfl) (fun _ _ _ h => h) (Or.inl ⟨by rfl, (by intro wz hSz; (try dsimp only at hSz); go_simp)⟩) hHeld ?_
    try simp only [Act.put]
    refine wpAnyT_take (i := 5) (v := .complex .f32 c.1 c.2) rfl (by kernel_rfl) (by kernel_rfl) (by kernel_rfl) (by kernel_rfl) (fun _ _ _ h => h) (Or.inl ⟨by rfl, (by intro wz hSz; (try dsimp only at hSz); go_simp)⟩) hHeld ?_
    try simp only [Act.put]
    refine wpAnyT_take (i := 9) (v := .complex .f32 d.1 d.2) rfl (by kernel_rfl) (by kernel_rfl) (by kernel_rfl) (by kernel_rfl) (fun _ _ _ h => h) (Or.inl ⟨by rfl, (by intro wz hSz; (try dsimp only at hSz); go_simp)⟩) hHeld ?_
    try simp only [Act.put]
    refine wpAnyT_take (i := 2) (v := .complex .f32 z.1 z.2) rfl (by kernel_rfl) (by kernel_rfl) (by kernel_rfl) (by kernel_rfl) (fun _ _ _ h => h) (Or.inl ⟨by rfl, (by intro wz hSz; (try dsimp only at hSz); go_simp)⟩) hHeld ?_
    try simp only [Act.put]
    refine wpAnyT_take (i := 6) (v := .complex .f32 z.1 z.2) rfl (by kernel_rfl) (by kernel_rfl) (by kernel_rfl) (by kernel_rfl) (fun _ _ _ h => h) (Or.inl ⟨by rfl, (by intro wz hSz; (try dsimp only at hSz); go_simp)⟩) hHeld ?_
    try simp only [Act.put]
    refine wpAnyT_take (i := 10) (v := .complex .f32 z.1 z.2) rfl (by kernel_rfl) (by kernel_rfl) (by kernel_rfl) (by kernel_rfl) (fun _ _ _ h => h) (Or.inl ⟨by rfl, (by intro wz hSz; (try dsimp only at hSz); go_simp)⟩) hHeld ?_
    try simp only [Act.put]
    refine wpAnyT_one (i := 3) (by kernel_rfl) rfl (fun K hK => ?_)
    go_simp
    go_at_call 81
    (with_reducible refine (K1.out _).mono ?_)
    rintro e w' ⟨rfl, n1, rfl⟩
    go_wp2_with fail
    refine hK.out _ _ (fun _ b o h => rfl) (fun hH => ?_)
    have hHeld := hH rfl
    clear hK K hH
    try simp only [Act.put, List.setIfInBounds_toArray, List.set_cons_zero, List.set_cons_succ]
    refine wpAnyT_take (i := 12) (v := .pointer (some ⟨w.heap.size + 1 + 1, 0, none⟩)) rfl (by kernel_rfl) (by kernel_rfl) (by kernel_rfl) (by kernel_rfl) (fun _ _ _ h => h) (Or.inl ⟨by rfl, (by intro wz hSz; (try dsimp only at hSz); go_simp)⟩) hHeld ?_
    try simp only [Act.put, List.setIfInBounds_toArray]
    refine wpAnyT_one (i := 7) (by kernel_rfl) rfl (fun K hK => ?_)
    go_simp
    go_at_call 81
    (with_reducible refine (K2.out _).mono ?_)
    rintro e w' ⟨rfl, n2, rfl⟩
    go_wp2_with fail
    refine hK.out _ _ (fun _ b o h => rfl) (fun hH => ?_)
    have hHeld := hH rfl
    clear hK K hH
    try simp only [Act.put, List.setIfInBounds_toArray, List.set_cons_zero, List.set_cons_succ]
    refine wpAnyT_one (i := 11) (by kernel_rfl) rfl (fun K hK => ?_)
    go_simp
    go_at_call 81
    (with_reducible refine (K3.out _).mono ?_)
    rintro e w' ⟨rfl, n3, rfl⟩
    go_wp2_with fail
    refine hK.out _ _ (fun _ b o h => rfl) (fun hH => ?_)
    have hHeld := hH rfl
    clear hK K hH
    try simp only [Act.put, List.setIfInBounds_toArray, List.set_cons_zero, List.set_cons_succ]
    refine wpAnyT_one (i := 13) (by kernel_rfl) rfl (fun K hK => ?_)
    go_simp
    refine hK.out _ _ (fun e => by cases e) (fun hH => ?_)
    clear hK K hH
    try simp only [Act.put, List.setIfInBounds_toArray, List.set_cons_zero, List.set_cons_succ]
    refine wpAnyT_one (i := 14) (by kernel_rfl) rfl (fun K hK => ?_)
    go_simp
    refine hK.out _ _ (fun e => by cases e) (fun hH => ?_)
    clear hK K hH
    try simp only [Act.put, List.setIfInBounds_toArray, List.set_cons_zero, List.set_cons_succ]
    refine wpAnyT_one (i := 15) (by kernel_rfl) rfl (fun K hK => ?_)
    go_simp
    refine hK.out _ _ (fun e => by cases e) (fun hH => ?_)
    clear hK K hH
    try simp only [Act.put, List.setIfInBounds_toArray, List.set_cons_zero, List.set_cons_succ]
    refine wpAnyT_one (i := 16) (by kernel_rfl) rfl (fun K hK => ?_)
    go_simp
    refine hK.out _ _ (fun e => by cases e) (fun hH => ?_)
    clear hK K hH
    try simp only [Act.put, List.setIfInBounds_toArray, List.set_cons_zero, List.set_cons_succ]
    refine wpAnyT_one (i := 17) (by kernel_rfl) rfl (fun K hK => ?_)
    go_simp
    refine hK.out _ _ (fun e => by cases e) (fun hH => ?_)
    clear hK K hH
    try simp only [Act.put, List.setIfInBounds_toArray, List.set_cons_zero, List.set_cons_succ]
    refine wpAnyT_end (by kernel_rfl) ?_ _
    go_wp2_with fail
    go_meet
    exact ⟨_, rfl, by (repeat (first | with_reducible assumption | exact Below.refl _ _ | (refine Below.setCell ?_ (by first | exact Nat.le_refl _ | (simp; done) | omega | (simp; omega)) _) | (refine below_drewN ?_ _) | (refine Below.drew ?_) | (refine Below.alloc ?_ (by first | exact Nat.le_refl _ | (simp; done) | omega | (simp; omega)) _) | (refine then_ ?_ (by with_reducible assumption)) | assumption | (refine then_ ?_ (by assumption))))⟩
  case rest =>
    obtain ⟨wy, hwx, hy⟩ := hcut
    replace ca := (((ca.keep hy).other ⟨w.heap.size + 1 + 1, 0, none⟩ (.complex .f32 P1.1 P1.2) n02).other ⟨w.heap.size + 1 + 1, 1, none⟩ (.complex .f32 P2.1 P2.2) n02).other ⟨w.heap.size + 1 + 1, 2, none⟩ (.complex .f32 P3.1 P3.2) n02
    replace co := (((co.keep hy).other ⟨w.heap.size + 1 + 1, 0, none⟩ (.complex .f32 P1.1 P1.2) n12).other ⟨w.heap.size + 1 + 1, 1, none⟩ (.complex .f32 P2.1 P2.2) n12).other ⟨w.heap.size + 1 + 1, 2, none⟩ (.complex .f32 P3.1 P3.2) n12
    replace fo := (((fo.keep hy l1).set ⟨w.heap.size + 1 + 1, 0, none⟩ (.complex .f32 P1.1 P1.2)).set ⟨w.heap.size + 1 + 1, 1, none⟩ (.complex .f32 P2.1 P2.2)).set ⟨w.heap.size + 1 + 1, 2, none⟩ (.complex .f32 P3.1 P3.2)
    replace cx := (((cx.keep hy).put 0 (.complex .f32 P1.1 P1.2)).put 1 (.complex .f32 P2.1 P2.2)).put 2 (.complex .f32 P3.1 P3.2)
    replace hW := (((then_ hW hy).setCell (p := ⟨w.heap.size + 1 + 1, 0, none⟩) le2 (.complex .f32 P1.1 P1.2)).setCell (p := ⟨w.heap.size + 1 + 1, 1, none⟩) le2 (.complex .f32 P2.1 P2.2)).setCell (p := ⟨w.heap.size + 1 + 1, 2, none⟩) le2 (.complex .f32 P3.1 P3.2)
    rw [← hwx] at ca co fo cx hW
    clear hwx hy fa fx x0 x1 x2 x3 x4 x5 x6 f0 f1 f2 f3 f4 f5 f6 a0 a1 a2 a3 a4 a5 a6 K1 K2 K3
    have a0 := ca 0 _ rfl; have a1 := ca 1 _ rfl; have a2 := ca 2 _ rfl; have a3 := ca 3 _ rfl; have a4 := ca 4 _ rfl; have a5 := ca 5 _ rfl; have a6 := ca 6 _ rfl
    have x0 := cx 0 _ rfl; have x1 := cx 1 _ rfl; have x2 := cx 2 _ rfl; have x3 := cx 3 _ rfl; have x4 := cx 4 _ rfl; have x5 := cx 5 _ rfl; have x6 := cx 6 _ rfl
    replace l0 := ca.lt
    replace l1 := co.lt
    replace l2 := (World.block_lt_of_cell? _ _ x0)
    go_wp2_with fail
    (with_reducible refine (KS.out _).mono ?_)
    rintro r w4 ⟨rfl, hb4⟩
    clear a0 a1 a2 a3 a4 a5 a6 x0 x1 x2 x3 x4 x5 x6
    replace ca := ca.keep hb4
    replace co := co.keep hb4
    replace fo := fo.keep hb4 l1
    replace cx := cx.keep hb4
    replace hW := then_ hW hb4
    clear hb4
    have a0 := ca 0 _ rfl; have a1 := ca 1 _ rfl; have a2 := ca 2 _ rfl; have a3 := ca 3 _ rfl; have a4 := ca 4 _ rfl; have a5 := ca 5 _ rfl; have a6 := ca 6 _ rfl
    have x0 := cx 0 _ rfl; have x1 := cx 1 _ rfl; have x2 := cx 2 _ rfl; have x3 := cx 3 _ rfl; have x4 := cx 4 _ rfl; have x5 := cx 5 _ rfl; have x6 := cx 6 _ rfl
    replace l0 := ca.lt
    replace l1 := co.lt
    replace l2 := (World.block_lt_of_cell? _ _ x0)
    go_wp2_with fail
    (with_reducible refine (isPoint_any _ _ _).mono ?_)
    rw [hz]
    rintro r w5 ⟨rfl, rfl⟩
    go_wp2_with fail
    (with_reducible refine (KM.out _).mono ?_)
    rintro r w6 ⟨rfl, hb4⟩
    clear a0 a1 a2 a3 a4 a5 a6 x0 x1 x2 x3 x4 x5 x6
    replace ca := ca.keep hb4
    replace co := co.keep hb4
    replace fo := fo.keep hb4 l1
    replace cx := cx.keep hb4
    replace hW := then_ hW hb4
    clear hb4
    have a0 := ca 0 _ rfl; have a1 := ca 1 _ rfl; have a2 := ca 2 _ rfl; have a3 := ca 3 _ rfl; have a4 := ca 4 _ rfl; have a5 := ca 5 _ rfl; have a6 := ca 6 _ rfl
    have x0 := cx 0 _ rfl; have x1 := cx 1 _ rfl; have x2 := cx 2 _ rfl; have x3 := cx 3 _ rfl; have x4 := cx 4 _ rfl; have x5 := cx 5 _ rfl; have x6 := cx 6 _ rfl
    have o0 := co 0 _ rfl; have o1 := co 1 _ rfl; have o2 := co 2 _ rfl; have o3 := co 3 _ rfl; have o4 := co 4 _ rfl; have o5 := co 5 _ rfl; have o6 := co 6 _ rfl
    have f0 := fo 0; have f1 := fo 1; have f2 := fo 2; have f3 := fo 3; have f4 := fo 4; have f5 := fo 5; have f6 := fo 6
    replace l0 := ca.lt
    replace l1 := co.lt
    replace l2 := (World.block_lt_of_cell? _ _ x0)
    have HW := Lib.hid hW
    have CO := Lib.hid co
    clear hW co
    cases ok
    · go_wp2
      have co := (((((((CO.out.put 0 (.complex .f32 a.1 a.2)).put 1 (.complex .f32 c.1 c.2)).put 2 (.complex .f32 d.1 d.2)).put 3 (.float .f32 r)).put 4 (.float .f32 g)).put 5 (.float .f32 l)).put 6 (.float .f32 q))
      have z0 := co 0 _ rfl; have z1 := co 1 _ rfl; have z2 := co 2 _ rfl; have z3 := co 3 _ rfl; have z4 := co 4 _ rfl; have z5 := co 5 _ rfl; have z6 := co 6 _ rfl
      exact bodyPost_ret (v := .tuple #[.agg #[.complex .f32 a.1 a.2, .complex .f32 c.1 c.2, .complex .f32 d.1 d.2, .float .f32 r, .float .f32 g, .float .f32 l, .float .f32 q], .bool false]) (by simp [results, Tryz.results37, go_sem, z0, z1, z2, z3, z4, z5, z6]) rfl ⟨rfl, (((((((HW.out.setCell le1 _).setCell le1 _).setCell le1 _).setCell le1 _).setCell le1 _).setCell le1 _).setCell le1 _)⟩
    · go_wp2
      have co := (((((((CO.out.put 0 (.complex .f32 P1.1 P1.2)).put 1 (.complex .f32 P2.1 P2.2)).put 2 (.complex .f32 P3.1 P3.2)).put 3 (.float .f32 r)).put 4 (.float .f32 g)).put 5 (.float .f32 l)).put 6 (.float .f32 q))
      have z0 := co 0 _ rfl; have z1 := co 1 _ rfl; have z2 := co 2 _ rfl; have z3 := co 3 _ rfl; have z4 := co 4 _ rfl; have z5 := co 5 _ rfl; have z6 := co 6 _ rfl
      exact bodyPost_ret (v := .tuple #[.agg #[.complex .f32 P1.1 P1.2, .complex .f32 P2.1 P2.2, .complex .f32 P3.1 P3.2, .float .f32 r, .float .f32 g, .float .f32 l, .float .f32 q], .bool true]) (by simp [results, Tryz.results37, go_sem, z0, z1, z2, z3, z4, z5, z6]) rfl ⟨rfl, (((((((HW.out.setCell le1 _).setCell le1 _).setCell le1 _).setCell le1 _).setCell le1 _).setCell le1 _).setCell le1 _)⟩
end Go.Proofs.YthlphmojldbpkaaGreat

/- The walks of BackSym, PlaceOf, CellTo, both versions. -/
namespace Go.Proofs.YthlphmojldbpkaaGreat
open Go.RowKit

def backP (t : Int) (f : Bool) : Int × Bool := if inB t 0 3 then (if f then t else (4 - t) % 4, f) else (0, false)

/-- PlaceOf's two results -/
def placeQ (size cell : Int) (b : Bool) : Value := .tuple #[cxV (if b then flP (ptI size cell) else (0, 0)), .bool b]
def placeV (size cell : Int) : Value := placeQ size cell (okCell size cell)

theorem placeOf_any (size cell : Int) (w : World) :
    Calls Tryz.prog 83 #[.int .i64 size, .int .i64 cell] w fun e w' => e = .returned (placeV size cell) ∧ Dr w w' := by
  have r : okCell size cell = (inB size 1 8 && inB cell 0 (size * size - 1)) := rfl
  cases ha : inB size 1 8
  · rw [ha] at r
    have R := Lib.hid r
    clear r
    go_enter Tryz.func83, Tryz.ntmps83
    go_wp2_with (go_at_call 49; refine (within_any _ _ _ _).mono ?_; rintro e w' ⟨rfl, rfl⟩; simp only [ha])
    go_ret2
    exact ⟨by unfold placeV; rw [R.out]; rfl, Dr.refl _⟩
  · obtain ⟨b1, b2⟩ := inB_true ha
    have b3 : size * size ≤ 8 * 8 := Int.mul_le_mul b2 b2 (by omega) (by omega)
    have b4 : 1 * 1 ≤ size * size := Int.mul_le_mul b1 b1 (by omega) (by omega)
    cases hb : inB cell 0 (size * size - 1)
    · rw [ha, hb] at r
      have R := Lib.hid r
      clear r
      go_enter Tryz.func83, Tryz.ntmps83
      go_wp2_with (go_at_call 49; refine (within_any _ _ _ _).mono ?_; rintro e w' ⟨rfl, rfl⟩; first | simp only [ha] | simp only [hb])
      go_ret2
      exact ⟨by unfold placeV; rw [R.out]; rfl, Dr.refl _⟩
    · rw [ha, hb] at r
      have hk : okCell size cell = true := r
      have R := Lib.hid hk
      clear r
      obtain ⟨h1, h2, h3, h4, h5, h6⟩ := okCell_bd hk
      obtain ⟨m1, m2, m3, m4⟩ := mod_bd h1 h3
      have H := Lib.hid h4
      clear h4 hk
      go_enter Tryz.func83, Tryz.ntmps83
      go_wp2_with (go_at_call 49; refine (within_any _ _ _ _).mono ?_; rintro e w' ⟨rfl, rfl⟩; first | simp only [ha] | simp only [hb])
      go_quiet (fail)
      go_wp2
      go_ret2
      exact ⟨by unfold placeV; rw [R.out]; rfl, Dr.drewN _ _⟩
end Go.Proofs.YthlphmojldbpkaaGreat

/- The walks of CellTo, both versions. -/
namespace Go.Proofs.YthlphmojldbpkaaGreat
open Go.RowKit

def cellV (size cell t : Int) (f : Bool) : Int := if okCell size cell && inB t 0 3 then cellI size cell t f else -1

theorem placeOf_ok (size cell : Int) (w : World) (h : okCell size cell = true) :
    Calls Tryz.prog 83 #[.int .i64 size, .int .i64 cell] w fun e w' => e = .returned (.tuple #[.complex .f32 (fl (ptI size cell).1) (fl (ptI size cell).2), .bool true]) ∧ Dr w w' :=
  (placeOf_any size cell w).mono fun e w' ⟨he, hd⟩ => ⟨by rw [he]; unfold placeV; rw [h]; rfl, hd⟩
end Go.Proofs.YthlphmojldbpkaaGreat

/- firstCell, l4First: the least cell to which symmetries of mirrors lead. -/
namespace Go.Proofs.YthlphmojldbpkaaGreat
open Go.RowKit
attribute [local go_sem] run_store_float run_store_complex

def firstL (l : List (Int × Bool)) (size cell : Int) (k : Nat) : Int := (l.take k).foldl (fun o g => if cellV size cell g.1 g.2 < o then cellV size cell g.1 g.2 else o) cell
def firstI (kind size cell : Int) : Int := firstL (symsL kind) size cell (symsL kind).length
end Go.Proofs.YthlphmojldbpkaaGreat

/- IsPicture, both versions. -/
namespace Go.Proofs.YthlphmojldbpkaaGreat
open Go.RowKit

def pictB (s : Int) (xs : List Col) : Bool := inB s 1 8 && (((xs.length : Int) == s * s) && xs.all colB)

theorem all_yes {xs : List Col} (h : ∀ (i : Nat) x, xs[i]? = some x → colB x = true) : xs.all colB = true := by
  rw [List.all_eq_true]
  intro x hx
  obtain ⟨i, hi⟩ := List.getElem?_of_mem hx
  exact h i x hi

attribute [local go_sem] run_store_float run_store_complex

end Go.Proofs.YthlphmojldbpkaaGreat

/- eqColourS, eqPicture answer true of slices that read alike. -/
namespace Go.Proofs.YthlphmojldbpkaaGreat
open Go.RowKit

end Go.Proofs.YthlphmojldbpkaaGreat

/- toColourS, toPicture: a copy in memory of the call's own. -/
namespace Go.Proofs.YthlphmojldbpkaaGreat
open Go.RowKit
attribute [local go_sem] run_store_float run_store_complex

theorem infoCol : (Tryz.prog.info? 26).map (fun i => (i.zero, i.size, i.bytes)) = some (some (.agg #[.float .f32 0, .float .f32 0, .float .f32 0]), 3, 12) := by kernel_rfl

end Go.Proofs.YthlphmojldbpkaaGreat
