
/- NewShow, both versions; shows without glass, beads and events held against each other and marked. -/
import Derived.Test.YtkhlaifjfdecoaaNewS
namespace Go.Proofs.Ytkhlaifjfdecoaa
open Go.RowKit
attribute [local go_sem] run_store_float run_store_complex

theorem eqShardS_nil (w : World) :
    Calls Try.prog 14 #[.slice none 0 0, .slice none 0 0] w fun e w' => e = .returned (.bool true) ∧ w = w' := by
  go_enter Try.func14, Try.ntmps14
  go_wp2
  go_loopw [5] (fun i wr => i = .int .i64 0 ∧ w = wr) (fun _ _ => 0)
  case atStart => exact ⟨rfl, rfl⟩
  case round =>
    obtain ⟨rfl, rfl⟩ := hrel
    go_wp2
    go_ret
    exact ⟨rfl, rfl⟩
theorem eqBeadS_nil (w : World) :
    Calls Try.prog 39 #[.slice none 0 0, .slice none 0 0] w fun e w' => e = .returned (.bool true) ∧ w = w' := by
  go_enter Try.func39, Try.ntmps39
  go_wp2
  go_loopw [5] (fun i wr => i = .int .i64 0 ∧ w = wr) (fun _ _ => 0)
  case atStart => exact ⟨rfl, rfl⟩
  case round =>
    obtain ⟨rfl, rfl⟩ := hrel
    go_wp2
    go_ret
    exact ⟨rfl, rfl⟩
theorem eqEventS_nil (w : World) :
    Calls Try.prog 16 #[.slice none 0 0, .slice none 0 0] w fun e w' => e = .returned (.bool true) ∧ w = w' := by
  go_enter Try.func16, Try.ntmps16
  go_wp2
  go_loopw [5] (fun i wr => i = .int .i64 0 ∧ w = wr) (fun _ _ => 0)
  case atStart => exact ⟨rfl, rfl⟩
  case round =>
    obtain ⟨rfl, rfl⟩ := hrel
    go_wp2
    go_ret
    exact ⟨rfl, rfl⟩
theorem markShardS_nil (w : World) (k : Int) :
    Calls Try.prog 17 #[.slice none 0 0, .int .i64 k] w fun e w' => e = .returned (.int .i64 k) ∧ w = w' := by
  go_enter Try.func17, Try.ntmps17
  go_wp2
  go_loopw [1, 5] (fun q i wr => q = .int .i64 k ∧ i = .int .i64 0 ∧ w = wr) (fun _ _ _ => 0)
  case atStart => exact ⟨rfl, rfl, rfl⟩
  case round =>
    obtain ⟨rfl, rfl, rfl⟩ := hrel
    go_wp2
    go_ret
    exact ⟨rfl, rfl⟩
theorem markBeadS_nil (w : World) (k : Int) :
    Calls Try.prog 41 #[.slice none 0 0, .int .i64 k] w fun e w' => e = .returned (.int .i64 k) ∧ w = w' := by
  go_enter Try.func41, Try.ntmps41
  go_wp2
  go_loopw [1, 5] (fun q i wr => q = .int .i64 k ∧ i = .int .i64 0 ∧ w = wr) (fun _ _ _ => 0)
  case atStart => exact ⟨rfl, rfl, rfl⟩
  case round =>
    obtain ⟨rfl, rfl, rfl⟩ := hrel
    go_wp2
    go_ret
    exact ⟨rfl, rfl⟩
theorem markEventS_nil (w : World) (k : Int) :
    Calls Try.prog 19 #[.slice none 0 0, .int .i64 k] w fun e w' => e = .returned (.int .i64 k) ∧ w = w' := by
  go_enter Try.func19, Try.ntmps19
  go_wp2
  go_loopw [1, 5] (fun q i wr => q = .int .i64 k ∧ i = .int .i64 0 ∧ w = wr) (fun _ _ _ => 0)
  case atStart => exact ⟨rfl, rfl, rfl⟩
  case round =>
    obtain ⟨rfl, rfl, rfl⟩ := hrel
    go_wp2
    go_ret
    exact ⟨rfl, rfl⟩
theorem heldShardS_nil (w : World) (k : Int) :
    Calls Try.prog 20 #[.slice none 0 0, .int .i64 k] w fun e w' => e = .returned (.int .i64 k) ∧ w = w' := by
  go_enter Try.func20, Try.ntmps20
  go_wp2
  go_loopw [1, 5] (fun q i wr => q = .int .i64 k ∧ i = .int .i64 0 ∧ w = wr) (fun _ _ _ => 0)
  case atStart => exact ⟨rfl, rfl, rfl⟩
  case round =>
    obtain ⟨rfl, rfl, rfl⟩ := hrel
    go_wp2
    go_ret
    exact ⟨rfl, rfl⟩
theorem heldBeadS_nil (w : World) (k : Int) :
    Calls Try.prog 42 #[.slice none 0 0, .int .i64 k] w fun e w' => e = .returned (.int .i64 k) ∧ w = w' := by
  go_enter Try.func42, Try.ntmps42
  go_wp2
  go_loopw [1, 5] (fun q i wr => q = .int .i64 k ∧ i = .int .i64 0 ∧ w = wr) (fun _ _ _ => 0)
  case atStart => exact ⟨rfl, rfl, rfl⟩
  case round =>
    obtain ⟨rfl, rfl, rfl⟩ := hrel
    go_wp2
    go_ret
    exact ⟨rfl, rfl⟩
theorem heldEventS_nil (w : World) (k : Int) :
    Calls Try.prog 22 #[.slice none 0 0, .int .i64 k] w fun e w' => e = .returned (.int .i64 k) ∧ w = w' := by
  go_enter Try.func22, Try.ntmps22
  go_wp2
  go_loopw [1, 5] (fun q i wr => q = .int .i64 k ∧ i = .int .i64 0 ∧ w = wr) (fun _ _ _ => 0)
  case atStart => exact ⟨rfl, rfl, rfl⟩
  case round =>
    obtain ⟨rfl, rfl, rfl⟩ := hrel
    go_wp2
    go_ret
    exact ⟨rfl, rfl⟩

set_option maxHeartbeats 2000000 in
theorem specIsTumble_nil (kind : Int) (w : World) :
    Calls Try.prog 27 #[bareV kind] w fun e w' => e = .returned (.bool (inB kind 0 3)) ∧ Below w.heap.size w w' := by
  unfold bareV
  cases h1 : inB kind 0 3
  · go_enter Try.func27, Try.ntmps27
    go_wp2_with (go_at_call 23; (with_reducible refine (l1In_any _ _ _ _).mono ?_); rintro e w' ⟨rfl, rfl⟩; simp only [h1])
    go_ret
    exact ⟨rfl, by (repeat (first | with_reducible assumption | exact Below.refl _ _ | (refine Below.setCell ?_ (by first | exact Nat.le_refl _ | (simp; done) | omega | (simp; omega)) _) | (refine below_drewN ?_ _) | (refine Below.drew ?_) | (refine Below.alloc ?_ (by first | exact Nat.le_refl _ | (simp; done) | omega | (simp; omega)) _) | (refine then_ ?_ (by with_reducible assumption)) | assumption | (refine then_ ?_ (by assumption))))⟩
  · have h2 : pointB 0 0 = true := by decide +kernel
    have h3 : partB 0 = true := by decide +kernel
    go_enter Try.func27, Try.ntmps27
    go_wp2_with fail
    (with_reducible refine (l1In_any _ _ _ _).mono ?_)
    rw [h1]
    rintro e w' ⟨rfl, rfl⟩
    go_wp2_with fail
    (with_reducible refine (specIsPoint_any 0 0 _).mono ?_)
    rw [h2]
    rintro e w' ⟨rfl, n1, rfl⟩
    go_wp2_with fail
    (with_reducible refine (l2Part_any _ _).mono ?_)
    rw [h3]
    rintro e w' ⟨rfl, n2, rfl⟩
    go_wp2_with fail
    obtain ⟨W, hWe⟩ : ∃ W, W = ((w.alloc (Obj.cells #[.int .i64 kind, .complex .f32 0 0, .float .f32 0, .slice none 0 0] 30)).drewN (n1 + n2)) := ⟨_, rfl⟩
    have hW : Below w.heap.size w W := by rw [hWe]; exact below_drewN (by (repeat (first | with_reducible assumption | exact Below.refl _ _ | (refine Below.setCell ?_ (by first | exact Nat.le_refl _ | (simp; done) | omega | (simp; omega)) _) | (refine below_drewN ?_ _) | (refine Below.drew ?_) | (refine Below.alloc ?_ (by first | exact Nat.le_refl _ | (simp; done) | omega | (simp; omega)) _) | (refine then_ ?_ (by with_reducible assumption)) | assumption | (refine then_ ?_ (by assumption))))) _
    rw [← hWe]
    clear hWe
    go_loopw [30] (fun i wr => i = .int .i64 0 ∧ W = wr) (fun _ _ => 0)
    case atStart => exact ⟨rfl, rfl⟩
    case round =>
      obtain ⟨rfl, rfl⟩ := hrel
      go_wp2
      go_ret
      exact ⟨rfl, hW⟩

set_option maxRecDepth 100000 in
set_option maxHeartbeats 8000000 in
theorem specIsShow_new (kind size : Int) (step r g b : Nat) (w : World) :
    Calls Try.prog 10 #[newV kind size step r g b] w fun e w' => e = .returned (.bool (newOk kind size step r g b)) ∧ Below w.heap.size w w' := by
  unfold newV
  have NO := Lib.hid (show newOk kind size step r g b = (inB size 1 8 && ((finB step && (!leB step 0 && !gtB step 1132462080)) && (colB (r, g, b) && inB kind 0 3))) by unfold newOk; rw [step_parts])
  have e1 : (FloatKind.f32.format.order step 0 == some .lt || FloatKind.f32.format.order step 0 == some .eq) = leB step 0 := rfl
  have e2 : (FloatKind.f32.format.order step 1132462080 == some .gt) = gtB step 1132462080 := rfl
  cases h1 : inB size 1 8
  · have R := Lib.hid (show newOk kind size step r g b = false by rw [NO.out, h1]; rfl)
    clear e1 e2
    go_enter Try.func10, Try.ntmps10
    go_wp2_with (go_at_call 23; (with_reducible refine (l1In_any size 1 8 _).mono ?_); rintro e w' ⟨rfl, rfl⟩; simp only [h1])
    go_ret
    exact ⟨by rw [R.out]; rfl, by (repeat (first | with_reducible assumption | exact Below.refl _ _ | (refine Below.setCell ?_ (by first | exact Nat.le_refl _ | (simp; done) | omega | (simp; omega)) _) | (refine below_drewN ?_ _) | (refine Below.drew ?_) | (refine Below.alloc ?_ (by first | exact Nat.le_refl _ | (simp; done) | omega | (simp; omega)) _) | (refine then_ ?_ (by with_reducible assumption)) | assumption | (refine then_ ?_ (by assumption))))⟩
  · cases h2 : finB step
    · have R := Lib.hid (show newOk kind size step r g b = false by rw [NO.out, h1, h2]; rfl)
      clear e1 e2
      go_enter Try.func10, Try.ntmps10
      go_wp2_with fail
      (with_reducible refine (l1In_any size 1 8 _).mono ?_)
      rw [h1]
      rintro e w' ⟨rfl, rfl⟩
      go_wp2_with fail
      (with_reducible refine (l1Single_any _ _).mono ?_)
      rw [h2]
      rintro e w' ⟨rfl, n1, rfl⟩
      go_wp2
      go_ret
      exact ⟨by rw [R.out]; rfl, below_drewN (by (repeat (first | with_reducible assumption | exact Below.refl _ _ | (refine Below.setCell ?_ (by first | exact Nat.le_refl _ | (simp; done) | omega | (simp; omega)) _) | (refine below_drewN ?_ _) | (refine Below.drew ?_) | (refine Below.alloc ?_ (by first | exact Nat.le_refl _ | (simp; done) | omega | (simp; omega)) _) | (refine then_ ?_ (by with_reducible assumption)) | assumption | (refine then_ ?_ (by assumption))))) _⟩
    · cases h3 : leB step 0
      · cases h4 : gtB step 1132462080
        · rw [h3] at e1
          rw [h4] at e2
          have NO := Lib.hid (show newOk kind size step r g b = (colB (r, g, b) && inB kind 0 3) by rw [NO.out, h1, h2, h3, h4]; rfl)
          have KC := Lib.hid (fun w => specIsColour_any r g b w)
          have KT := Lib.hid (fun w => specIsTumble_nil kind w)
          unfold bareV at KT
          have ht : inB 0 0 200 = true := by decide
          clear h3 h4
          go_enter Try.func10, Try.ntmps10
          go_wp2_with fail
          (with_reducible refine (l1In_any size 1 8 _).mono ?_)
          rw [h1]
          rintro e w' ⟨rfl, rfl⟩
          go_wp2_with fail
          (with_reducible refine (l1Single_any _ _).mono ?_)
          rw [h2]
          rintro e w' ⟨rfl, n1, rfl⟩
          go_wp2_with fail
          obtain ⟨W, hWe⟩ : ∃ W, W = (w.alloc (Obj.cells #[.int .i64 size, .float .f32 step, .float .f32 r, .float .f32 g, .float .f32 b, .slice none 0 0, .int .i64 kind, .complex .f32 0 0, .float .f32 0, .slice none 0 0, .int .i64 0, .slice none 0 0] 33)).drewN n1 := ⟨_, rfl⟩
          have hW : Below w.heap.size w W := by rw [hWe]; exact below_drewN (by (repeat (first | with_reducible assumption | exact Below.refl _ _ | (refine Below.setCell ?_ (by first | exact Nat.le_refl _ | (simp; done) | omega | (simp; omega)) _) | (refine below_drewN ?_ _) | (refine Below.drew ?_) | (refine Below.alloc ?_ (by first | exact Nat.le_refl _ | (simp; done) | omega | (simp; omega)) _) | (refine then_ ?_ (by with_reducible assumption)) | assumption | (refine then_ ?_ (by assumption))))) _
          have c0 : W.cell? ⟨w.heap.size, 0, none⟩ = some (.int .i64 size) := by (rw [hWe]; show (w.alloc _).cell? _ = _; simp [go_sem])
          have c1 : W.cell? ⟨w.heap.size, 1, none⟩ = some (.float .f32 step) := by (rw [hWe]; show (w.alloc _).cell? _ = _; simp [go_sem])
          have c2 : W.cell? ⟨w.heap.size, 2, none⟩ = some (.float .f32 r) := by (rw [hWe]; show (w.alloc _).cell? _ = _; simp [go_sem])
          have c3 : W.cell? ⟨w.heap.size, 3, none⟩ = some (.float .f32 g) := by (rw [hWe]; show (w.alloc _).cell? _ = _; simp [go_sem])
          have c4 : W.cell? ⟨w.heap.size, 4, none⟩ = some (.float .f32 b) := by (rw [hWe]; show (w.alloc _).cell? _ = _; simp [go_sem])
          have c5 : W.cell? ⟨w.heap.size, 5, none⟩ = some (.slice none 0 0) := by (rw [hWe]; show (w.alloc _).cell? _ = _; simp [go_sem])
          have c6 : W.cell? ⟨w.heap.size, 6, none⟩ = some (.int .i64 kind) := by (rw [hWe]; show (w.alloc _).cell? _ = _; simp [go_sem])
          have c7 : W.cell? ⟨w.heap.size, 7, none⟩ = some (.complex .f32 0 0) := by (rw [hWe]; show (w.alloc _).cell? _ = _; simp [go_sem])
          have c8 : W.cell? ⟨w.heap.size, 8, none⟩ = some (.float .f32 0) := by (rw [hWe]; show (w.alloc _).cell? _ = _; simp [go_sem])
          have c9 : W.cell? ⟨w.heap.size, 9, none⟩ = some (.slice none 0 0) := by (rw [hWe]; show (w.alloc _).cell? _ = _; simp [go_sem])
          have c10 : W.cell? ⟨w.heap.size, 10, none⟩ = some (.int .i64 0) := by (rw [hWe]; show (w.alloc _).cell? _ = _; simp [go_sem])
          have c11 : W.cell? ⟨w.heap.size, 11, none⟩ = some (.slice none 0 0) := by (rw [hWe]; show (w.alloc _).cell? _ = _; simp [go_sem])
          have lW : w.heap.size < W.heap.size := World.block_lt_of_cell? _ _ c0
          rw [← hWe]
          clear hWe
          (with_reducible refine (KC.out _).mono ?_)
          cases h5 : colB (r, g, b)
          · rintro e w1 ⟨rfl, hb1⟩
            have B1 := then_ hW hb1
            clear hb1
            go_wp2
            go_ret
            exact ⟨by rw [NO.out, h5]; rfl, B1⟩
          · rintro e w1 ⟨rfl, hb1⟩
            have B1 := then_ hW hb1
            have c0 := keepC c0 hb1
            have c1 := keepC c1 hb1
            have c2 := keepC c2 hb1
            have c3 := keepC c3 hb1
            have c4 := keepC c4 hb1
            have c5 := keepC c5 hb1
            have c6 := keepC c6 hb1
            have c7 := keepC c7 hb1
            have c8 := keepC c8 hb1
            have c9 := keepC c9 hb1
            have c10 := keepC c10 hb1
            have c11 := keepC c11 hb1
            have lW : w.heap.size < w1.heap.size := World.block_lt_of_cell? _ _ c0
            clear hb1
            go_wp2_with fail
            (with_reducible refine (specAreShards_nil _).mono ?_)
            rintro e w' ⟨rfl, rfl⟩
            go_wp2_with fail
            (with_reducible refine (KT.out _).mono ?_)
            cases h6 : inB kind 0 3
            · rintro e w2 ⟨rfl, hb2⟩
              have B2 := then_ B1 hb2
              clear hb2
              go_wp2
              go_ret
              exact ⟨by rw [NO.out, h5, h6]; rfl, B2⟩
            · rintro e w2 ⟨rfl, hb2⟩
              have B2 := then_ B1 hb2
              have c0 := keepC c0 hb2
              have c1 := keepC c1 hb2
              have c2 := keepC c2 hb2
              have c3 := keepC c3 hb2
              have c4 := keepC c4 hb2
              have c5 := keepC c5 hb2
              have c6 := keepC c6 hb2
              have c7 := keepC c7 hb2
              have c8 := keepC c8 hb2
              have c9 := keepC c9 hb2
              have c10 := keepC c10 hb2
              have c11 := keepC c11 hb2
              have lW : w.heap.size < w2.heap.size := World.block_lt_of_cell? _ _ c0
              clear hb2
              go_wp2_with fail
              (with_reducible refine (l1In_any 0 0 200 _).mono ?_)
              rw [ht]
              rintro e w' ⟨rfl, rfl⟩
              go_wp2_with fail
              go_loopw [62] (fun i wr => i = .int .i64 0 ∧ w2 = wr) (fun _ _ => 0)
              case atStart => exact ⟨rfl, rfl⟩
              case round =>
                obtain ⟨rfl, rfl⟩ := hrel
                go_wp2
                go_ret
                exact ⟨by rw [NO.out, h5, h6]; rfl, B2⟩
        · have R := Lib.hid (show newOk kind size step r g b = false by rw [NO.out, h1, h2, h3, h4]; rfl)
          rw [h3] at e1
          rw [h4] at e2
          clear h3 h4
          go_enter Try.func10, Try.ntmps10
          go_wp2_with fail
          (with_reducible refine (l1In_any size 1 8 _).mono ?_)
          rw [h1]
          rintro e w' ⟨rfl, rfl⟩
          go_wp2_with fail
          (with_reducible refine (l1Single_any _ _).mono ?_)
          rw [h2]
          rintro e w' ⟨rfl, n1, rfl⟩
          go_wp2
          go_ret
          exact ⟨by rw [R.out]; rfl, below_drewN (by (repeat (first | with_reducible assumption | exact Below.refl _ _ | (refine Below.setCell ?_ (by first | exact Nat.le_refl _ | (simp; done) | omega | (simp; omega)) _) | (refine below_drewN ?_ _) | (refine Below.drew ?_) | (refine Below.alloc ?_ (by first | exact Nat.le_refl _ | (simp; done) | omega | (simp; omega)) _) | (refine then_ ?_ (by with_reducible assumption)) | assumption | (refine then_ ?_ (by assumption))))) _⟩
      · have R := Lib.hid (show newOk kind size step r g b = false by rw [NO.out, h1, h2, h3]; rfl)
        rw [h3] at e1
        clear h3 e2
        go_enter Try.func10, Try.ntmps10
        go_wp2_with fail
        (with_reducible refine (l1In_any size 1 8 _).mono ?_)
        rw [h1]
        rintro e w' ⟨rfl, rfl⟩
        go_wp2_with fail
        (with_reducible refine (l1Single_any _ _).mono ?_)
        rw [h2]
        rintro e w' ⟨rfl, n1, rfl⟩
        go_wp2
        go_ret
        exact ⟨by rw [R.out]; rfl, below_drewN (by (repeat (first | with_reducible assumption | exact Below.refl _ _ | (refine Below.setCell ?_ (by first | exact Nat.le_refl _ | (simp; done) | omega | (simp; omega)) _) | (refine below_drewN ?_ _) | (refine Below.drew ?_) | (refine Below.alloc ?_ (by first | exact Nat.le_refl _ | (simp; done) | omega | (simp; omega)) _) | (refine then_ ?_ (by with_reducible assumption)) | assumption | (refine then_ ?_ (by assumption))))) _⟩
end Go.Proofs.Ytkhlaifjfdecoaa
