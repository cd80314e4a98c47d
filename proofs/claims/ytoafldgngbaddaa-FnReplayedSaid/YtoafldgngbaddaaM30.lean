/- NewS2 · SameSh · EqS · Open -/
import Derived.Test.YtoafldgngbaddaaM26
import Derived.Test.YtoafldgngbaddaaM15
import Derived.Test.YtoafldgngbaddaaM18
import Derived.Test.YtoafldgngbaddaaM4
import Derived.Test.YtoafldgngbaddaaM6
import Derived.Test.YtoafldgngbaddaaM0
import Derived.Deep.RegionHeld3
import Derived.ProofKit
import Derived.ChangeOld
import Derived.Deep.Slices
import Derived.Lib.SmallJoins

/- NewShow, both versions; shows without glass, beads and events held against each other and marked. -/
namespace Go.Proofs.Ytoafldgngbaddaa
open Go.RowKit
attribute [local go_sem] run_store_float run_store_complex

theorem eqShardS_nil (w : World) :
    Calls Try.prog 22 #[.slice none 0 0, .slice none 0 0] w fun e w' => e = .returned (.bool true) ∧ w = w' := by
  go_enter Try.func22, Try.ntmps22
  go_wp2
  go_loopw [5] (fun i wr => i = .int .i64 0 ∧ w = wr) (fun _ _ => 0)
  case atStart => exact ⟨rfl, rfl⟩
  case round =>
    obtain ⟨rfl, rfl⟩ := hrel
    go_wp2
    go_ret
    exact ⟨rfl, rfl⟩
theorem eqBeadS_nil (w : World) :
    Calls Try.prog 55 #[.slice none 0 0, .slice none 0 0] w fun e w' => e = .returned (.bool true) ∧ w = w' := by
  go_enter Try.func55, Try.ntmps55
  go_wp2
  go_loopw [5] (fun i wr => i = .int .i64 0 ∧ w = wr) (fun _ _ => 0)
  case atStart => exact ⟨rfl, rfl⟩
  case round =>
    obtain ⟨rfl, rfl⟩ := hrel
    go_wp2
    go_ret
    exact ⟨rfl, rfl⟩
theorem eqEventS_nil (w : World) :
    Calls Try.prog 24 #[.slice none 0 0, .slice none 0 0] w fun e w' => e = .returned (.bool true) ∧ w = w' := by
  go_enter Try.func24, Try.ntmps24
  go_wp2
  go_loopw [5] (fun i wr => i = .int .i64 0 ∧ w = wr) (fun _ _ => 0)
  case atStart => exact ⟨rfl, rfl⟩
  case round =>
    obtain ⟨rfl, rfl⟩ := hrel
    go_wp2
    go_ret
    exact ⟨rfl, rfl⟩
theorem markShardS_nil (w : World) (k : Int) :
    Calls Try.prog 25 #[.slice none 0 0, .int .i64 k] w fun e w' => e = .returned (.int .i64 k) ∧ w = w' := by
  go_enter Try.func25, Try.ntmps25
  go_wp2
  go_loopw [1, 5] (fun q i wr => q = .int .i64 k ∧ i = .int .i64 0 ∧ w = wr) (fun _ _ _ => 0)
  case atStart => exact ⟨rfl, rfl, rfl⟩
  case round =>
    obtain ⟨rfl, rfl, rfl⟩ := hrel
    go_wp2
    go_ret
    exact ⟨rfl, rfl⟩
theorem markBeadS_nil (w : World) (k : Int) :
    Calls Try.prog 57 #[.slice none 0 0, .int .i64 k] w fun e w' => e = .returned (.int .i64 k) ∧ w = w' := by
  go_enter Try.func57, Try.ntmps57
  go_wp2
  go_loopw [1, 5] (fun q i wr => q = .int .i64 k ∧ i = .int .i64 0 ∧ w = wr) (fun _ _ _ => 0)
  case atStart => exact ⟨rfl, rfl, rfl⟩
  case round =>
    obtain ⟨rfl, rfl, rfl⟩ := hrel
    go_wp2
    go_ret
    exact ⟨rfl, rfl⟩
theorem markEventS_nil (w : World) (k : Int) :
    Calls Try.prog 27 #[.slice none 0 0, .int .i64 k] w fun e w' => e = .returned (.int .i64 k) ∧ w = w' := by
  go_enter Try.func27, Try.ntmps27
  go_wp2
  go_loopw [1, 5] (fun q i wr => q = .int .i64 k ∧ i = .int .i64 0 ∧ w = wr) (fun _ _ _ => 0)
  case atStart => exact ⟨rfl, rfl, rfl⟩
  case round =>
    obtain ⟨rfl, rfl, rfl⟩ := hrel
    go_wp2
    go_ret
    exact ⟨rfl, rfl⟩
theorem heldShardS_nil (w : World) (k : Int) :
    Calls Try.prog 28 #[.slice none 0 0, .int .i64 k] w fun e w' => e = .returned (.int .i64 k) ∧ w = w' := by
  go_enter Try.func28, Try.ntmps28
  go_wp2
  go_loopw [1, 5] (fun q i wr => q = .int .i64 k ∧ i = .int .i64 0 ∧ w = wr) (fun _ _ _ => 0)
  case atStart => exact ⟨rfl, rfl, rfl⟩
  case round =>
    obtain ⟨rfl, rfl, rfl⟩ := hrel
    go_wp2
    go_ret
    exact ⟨rfl, rfl⟩
theorem heldBeadS_nil (w : World) (k : Int) :
    Calls Try.prog 58 #[.slice none 0 0, .int .i64 k] w fun e w' => e = .returned (.int .i64 k) ∧ w = w' := by
  go_enter Try.func58, Try.ntmps58
  go_wp2
  go_loopw [1, 5] (fun q i wr => q = .int .i64 k ∧ i = .int .i64 0 ∧ w = wr) (fun _ _ _ => 0)
  case atStart => exact ⟨rfl, rfl, rfl⟩
  case round =>
    obtain ⟨rfl, rfl, rfl⟩ := hrel
    go_wp2
    go_ret
    exact ⟨rfl, rfl⟩
theorem heldEventS_nil (w : World) (k : Int) :
    Calls Try.prog 30 #[.slice none 0 0, .int .i64 k] w fun e w' => e = .returned (.int .i64 k) ∧ w = w' := by
  go_enter Try.func30, Try.ntmps30
  go_wp2
  go_loopw [1, 5] (fun q i wr => q = .int .i64 k ∧ i = .int .i64 0 ∧ w = wr) (fun _ _ _ => 0)
  case atStart => exact ⟨rfl, rfl, rfl⟩
  case round =>
    obtain ⟨rfl, rfl, rfl⟩ := hrel
    go_wp2
    go_ret
    exact ⟨rfl, rfl⟩

set_option maxHeartbeats 2000000 in
theorem specIsTumble_nil (kind : Int) (w : World) :
    Calls Try.prog 51 #[bareV kind] w fun e w' => e = .returned (.bool (inB kind 0 3)) ∧ Below w.heap.size w w' := by
  unfold bareV
  cases h1 : inB kind 0 3
  · go_enter Try.func51, Try.ntmps51
    go_wp2_with (go_at_call 47; (with_reducible refine (l1In_any _ _ _ _).mono ?_); rintro e w' ⟨rfl, rfl⟩; simp only [h1])
    go_ret
    exact ⟨rfl, by (repeat (first | with_reducible assumption | exact Below.refl _ _ | (refine Below.setCell ?_ (by first | exact Nat.le_refl _ | (simp; done) | omega | (simp; omega)) _) | (refine below_drewN ?_ _) | (refine Below.drew ?_) | (refine Below.alloc ?_ (by first | exact Nat.le_refl _ | (simp; done) | omega | (simp; omega)) _) | (refine then_ ?_ (by with_reducible assumption)) | assumption | (refine then_ ?_ (by assumption))))⟩
  · have h2 : pointB 0 0 = true := by decide +kernel
    have h3 : partB 0 = true := by decide +kernel
    go_enter Try.func51, Try.ntmps51
    go_wp2_with fail
    (with_reducible refine (l1In_any _ _ _ _).mono ?_)
    rw [h1]
    rintro e w' ⟨rfl, rfl⟩
    go_wp2_with fail
    (with_reducible refine (specIsPoint_any 0 0 _).mono ?_)
    rw [h2]
    rintro e w' ⟨rfl, n1, rfl⟩
    go_wp2_with fail
    (with_reducible refine (l2Part_any _ _).mono ?_)
    rw [h3]
    rintro e w' ⟨rfl, n2, rfl⟩
    go_wp2_with fail
    obtain ⟨W, hWe⟩ : ∃ W, W = ((w.alloc (Obj.cells #[.int .i64 kind, .complex .f32 0 0, .float .f32 0, .slice none 0 0] 30)).drewN (n1 + n2)) := ⟨_, rfl⟩
    have hW : Below w.heap.size w W := by rw [hWe]; exact below_drewN (by (repeat (first | with_reducible assumption | exact Below.refl _ _ | (refine Below.setCell ?_ (by first | exact Nat.le_refl _ | (simp; done) | omega | (simp; omega)) _) | (refine below_drewN ?_ _) | (refine Below.drew ?_) | (refine Below.alloc ?_ (by first | exact Nat.le_refl _ | (simp; done) | omega | (simp; omega)) _) | (refine then_ ?_ (by with_reducible assumption)) | assumption | (refine then_ ?_ (by assumption))))) _
    rw [← hWe]
    clear hWe
    go_loopw [30] (fun i wr => i = .int .i64 0 ∧ W = wr) (fun _ _ => 0)
    case atStart => exact ⟨rfl, rfl⟩
    case round =>
      obtain ⟨rfl, rfl⟩ := hrel
      go_wp2
      go_ret
      exact ⟨rfl, hW⟩

set_option maxRecDepth 100000 in
set_option maxHeartbeats 8000000 in
theorem specIsShow_new (kind size : Int) (step r g b : Nat) (w : World) :
    Calls Try.prog 19 #[newV kind size step r g b] w fun e w' => e = .returned (.bool (newOk kind size step r g b)) ∧ Below w.heap.size w w' := by
  unfold newV
  have NO := Lib.hid (show newOk kind size step r g b = (inB size 1 8 && ((finB step && (!leB step 0 && !gtB step 1132462080)) && (colB (r, g, b) && inB kind 0 3))) by unfold newOk; rw [step_parts])
  have e1 : (FloatKind.f32.format.order step 0 == some .lt || FloatKind.f32.format.order step 0 == some .eq) = leB step 0 := rfl
  have e2 : (FloatKind.f32.format.order step 1132462080 == some .gt) = gtB step 1132462080 := rfl
  cases h1 : inB size 1 8
  · have R := Lib.hid (show newOk kind size step r g b = false by rw [NO.out, h1]; rfl)
    clear e1 e2
    go_enter Try.func19, Try.ntmps19
    go_wp2_with (go_at_call 47; (with_reducible refine (l1In_any size 1 8 _).mono ?_); rintro e w' ⟨rfl, rfl⟩; simp only [h1])
    go_ret
    exact ⟨by rw [R.out]; rfl, by (repeat (first | with_reducible assumption | exact Below.refl _ _ | (refine Below.setCell ?_ (by first | exact Nat.le_refl _ | (simp; done) | omega | (simp; omega)) _) | (refine below_drewN ?_ _) | (refine Below.drew ?_) | (refine Below.alloc ?_ (by first | exact Nat.le_refl _ | (simp; done) | omega | (simp; omega)) _) | (refine then_ ?_ (by with_reducible assumption)) | assumption | (refine then_ ?_ (by assumption))))⟩
  · cases h2 : finB step
    · have R := Lib.hid (show newOk kind size step r g b = false by rw [NO.out, h1, h2]; rfl)
      clear e1 e2
      go_enter Try.func19, Try.ntmps19
      go_wp2_with fail
      (with_reducible refine (l1In_any size 1 8 _).mono ?_)
      rw [h1]
      rintro e w' ⟨rfl, rfl⟩
      go_wp2_with fail
      (with_reducible refine (l1Single_any _ _).mono ?_)
      rw [h2]
      rintro e w' ⟨rfl, n1, rfl⟩
      go_wp2
      go_ret
      exact ⟨by rw [R.out]; rfl, below_drewN (by (repeat (first | with_reducible assumption | exact Below.refl _ _ | (refine Below.setCell ?_ (by first | exact Nat.le_refl _ | (simp; done) | omega | (simp; omega)) _) | (refine below_drewN ?_ _) | (refine Below.drew ?_) | (refine Below.alloc ?_ (by first | exact Nat.le_refl _ | (simp; done) | omega | (simp; omega)) _) | (refine then_ ?_ (by with_reducible assumption)) | assumption | (refine then_ ?_ (by assumption))))) _⟩
    · cases h3 : leB step 0
      · cases h4 : gtB step 1132462080
        · rw [h3] at e1
          rw [h4] at e2
          have NO := Lib.hid (show newOk kind size step r g b = (colB (r, g, b) && inB kind 0 3) by rw [NO.out, h1, h2, h3, h4]; rfl)
          have KC := Lib.hid (fun w => specIsColour_any r g b w)
          have KT := Lib.hid (fun w => specIsTumble_nil kind w)
          unfold bareV at KT
          have ht : inB 0 0 200 = true := by decide
          clear h3 h4
          go_enter Try.func19, Try.ntmps19
          go_wp2_with fail
          (with_reducible refine (l1In_any size 1 8 _).mono ?_)
          rw [h1]
          rintro e w' ⟨rfl, rfl⟩
          go_wp2_with fail
          (with_reducible refine (l1Single_any _ _).mono ?_)
          rw [h2]
          rintro e w' ⟨rfl, n1, rfl⟩
          go_wp2_with fail
          obtain ⟨W, hWe⟩ : ∃ W, W = (w.alloc (Obj.cells #[.int .i64 size, .float .f32 step, .float .f32 r, .float .f32 g, .float .f32 b, .slice none 0 0, .int .i64 kind, .complex .f32 0 0, .float .f32 0, .slice none 0 0, .int .i64 0, .slice none 0 0] 33)).drewN n1 := ⟨_, rfl⟩
          have hW : Below w.heap.size w W := by rw [hWe]; exact below_drewN (by (repeat (first | with_reducible assumption | exact Below.refl _ _ | (refine Below.setCell ?_ (by first | exact Nat.le_refl _ | (simp; done) | omega | (simp; omega)) _) | (refine below_drewN ?_ _) | (refine Below.drew ?_) | (refine Below.alloc ?_ (by first | exact Nat.le_refl _ | (simp; done) | omega | (simp; omega)) _) | (refine then_ ?_ (by with_reducible assumption)) | assumption | (refine then_ ?_ (by assumption))))) _
          have c0 : W.cell? ⟨w.heap.size, 0, none⟩ = some (.int .i64 size) := by (rw [hWe]; show (w.alloc _).cell? _ = _; simp [go_sem])
          have c1 : W.cell? ⟨w.heap.size, 1, none⟩ = some (.float .f32 step) := by (rw [hWe]; show (w.alloc _).cell? _ = _; simp [go_sem])
          have c2 : W.cell? ⟨w.heap.size, 2, none⟩ = some (.float .f32 r) := by (rw [hWe]; show (w.alloc _).cell? _ = _; simp [go_sem])
          have c3 : W.cell? ⟨w.heap.size, 3, none⟩ = some (.float .f32 g) := by (rw [hWe]; show (w.alloc _).cell? _ = _; simp [go_sem])
          have c4 : W.cell? ⟨w.heap.size, 4, none⟩ = some (.float .f32 b) := by (rw [hWe]; show (w.alloc _).cell? _ = _; simp [go_sem])
          have c5 : W.cell? ⟨w.heap.size, 5, none⟩ = some (.slice none 0 0) := by (rw [hWe]; show (w.alloc _).cell? _ = _; simp [go_sem])
          have c6 : W.cell? ⟨w.heap.size, 6, none⟩ = some (.int .i64 kind) := by (rw [hWe]; show (w.alloc _).cell? _ = _; simp [go_sem])
          have c7 : W.cell? ⟨w.heap.size, 7, none⟩ = some (.complex .f32 0 0) := by (rw [hWe]; show (w.alloc _).cell? _ = _; simp [go_sem])
          have c8 : W.cell? ⟨w.heap.size, 8, none⟩ = some (.float .f32 0) := by (rw [hWe]; show (w.alloc _).cell? _ = _; simp [go_sem])
          have c9 : W.cell? ⟨w.heap.size, 9, none⟩ = some (.slice none 0 0) := by (rw [hWe]; show (w.alloc _).cell? _ = _; simp [go_sem])
          have c10 : W.cell? ⟨w.heap.size, 10, none⟩ = some (.int .i64 0) := by (rw [hWe]; show (w.alloc _).cell? _ = _; simp [go_sem])
          have c11 : W.cell? ⟨w.heap.size, 11, none⟩ = some (.slice none 0 0) := by (rw [hWe]; show (w.alloc _).cell? _ = _; simp [go_sem])
          have lW : w.heap.size < W.heap.size := World.block_lt_of_cell? _ _ c0
          rw [← hWe]
          clear hWe
          (with_reducible refine (KC.out _).mono ?_)
          cases h5 : colB (r, g, b)
          · rintro e w1 ⟨rfl, hb1⟩
            have B1 := then_ hW hb1
            clear hb1
            go_wp2
            go_ret
            exact ⟨by rw [NO.out, h5]; rfl, B1⟩
          · rintro e w1 ⟨rfl, hb1⟩
            have B1 := then_ hW hb1
            have c0 := keepC c0 hb1
            have c1 := keepC c1 hb1
            have c2 := keepC c2 hb1
            have c3 := keepC c3 hb1
            have c4 := keepC c4 hb1
            have c5 := keepC c5 hb1
            have c6 := keepC c6 hb1
            have c7 := keepC c7 hb1
            have c8 := keepC c8 hb1
            have c9 := keepC c9 hb1
            have c10 := keepC c10 hb1
            have c11 := keepC c11 hb1
            have lW : w.heap.size < w1.heap.size := World.block_lt_of_cell? _ _ c0
            clear hb1
            go_wp2_with fail
            (with_reducible refine (specAreShards_nil _).mono ?_)
            rintro e w' ⟨rfl, rfl⟩
            go_wp2_with fail
            (with_reducible refine (KT.out _).mono ?_)
            cases h6 : inB kind 0 3
            · rintro e w2 ⟨rfl, hb2⟩
              have B2 := then_ B1 hb2
              clear hb2
              go_wp2
              go_ret
              exact ⟨by rw [NO.out, h5, h6]; rfl, B2⟩
            · rintro e w2 ⟨rfl, hb2⟩
              have B2 := then_ B1 hb2
              have c0 := keepC c0 hb2
              have c1 := keepC c1 hb2
              have c2 := keepC c2 hb2
              have c3 := keepC c3 hb2
              have c4 := keepC c4 hb2
              have c5 := keepC c5 hb2
              have c6 := keepC c6 hb2
              have c7 := keepC c7 hb2
              have c8 := keepC c8 hb2
              have c9 := keepC c9 hb2
              have c10 := keepC c10 hb2
              have c11 := keepC c11 hb2
              have lW : w.heap.size < w2.heap.size := World.block_lt_of_cell? _ _ c0
              clear hb2
              go_wp2_with fail
              (with_reducible refine (l1In_any 0 0 200 _).mono ?_)
              rw [ht]
              rintro e w' ⟨rfl, rfl⟩
              go_wp2_with fail
              go_loopw [62] (fun i wr => i = .int .i64 0 ∧ w2 = wr) (fun _ _ => 0)
              case atStart => exact ⟨rfl, rfl⟩
              case round =>
                obtain ⟨rfl, rfl⟩ := hrel
                go_wp2
                go_ret
                exact ⟨by rw [NO.out, h5, h6]; rfl, B2⟩
        · have R := Lib.hid (show newOk kind size step r g b = false by rw [NO.out, h1, h2, h3, h4]; rfl)
          rw [h3] at e1
          rw [h4] at e2
          clear h3 h4
          go_enter Try.func19, Try.ntmps19
          go_wp2_with fail
          (with_reducible refine (l1In_any size 1 8 _).mono ?_)
          rw [h1]
          rintro e w' ⟨rfl, rfl⟩
          go_wp2_with fail
          (with_reducible refine (l1Single_any _ _).mono ?_)
          rw [h2]
          rintro e w' ⟨rfl, n1, rfl⟩
          go_wp2
          go_ret
          exact ⟨by rw [R.out]; rfl, below_drewN (by (repeat (first | with_reducible assumption | exact Below.refl _ _ | (refine Below.setCell ?_ (by first | exact Nat.le_refl _ | (simp; done) | omega | (simp; omega)) _) | (refine below_drewN ?_ _) | (refine Below.drew ?_) | (refine Below.alloc ?_ (by first | exact Nat.le_refl _ | (simp; done) | omega | (simp; omega)) _) | (refine then_ ?_ (by with_reducible assumption)) | assumption | (refine then_ ?_ (by assumption))))) _⟩
      · have R := Lib.hid (show newOk kind size step r g b = false by rw [NO.out, h1, h2, h3]; rfl)
        rw [h3] at e1
        clear h3 e2
        go_enter Try.func19, Try.ntmps19
        go_wp2_with fail
        (with_reducible refine (l1In_any size 1 8 _).mono ?_)
        rw [h1]
        rintro e w' ⟨rfl, rfl⟩
        go_wp2_with fail
        (with_reducible refine (l1Single_any _ _).mono ?_)
        rw [h2]
        rintro e w' ⟨rfl, n1, rfl⟩
        go_wp2
        go_ret
        exact ⟨by rw [R.out]; rfl, below_drewN (by (repeat (first | with_reducible assumption | exact Below.refl _ _ | (refine Below.setCell ?_ (by first | exact Nat.le_refl _ | (simp; done) | omega | (simp; omega)) _) | (refine below_drewN ?_ _) | (refine Below.drew ?_) | (refine Below.alloc ?_ (by first | exact Nat.le_refl _ | (simp; done) | omega | (simp; omega)) _) | (refine then_ ?_ (by with_reducible assumption)) | assumption | (refine then_ ?_ (by assumption))))) _⟩
end Go.Proofs.Ytoafldgngbaddaa

/- SameShow of a show and itself, however it lies. -/
namespace Go.Proofs.Ytoafldgngbaddaa
open Go.RowKit
attribute [local go_sem] run_store_float run_store_complex

set_option maxHeartbeats 2000000 in
theorem equalSh_self (A B : Option Addr) (n c d : Nat) (xs : List Sh) (w : World) (hn : n ≤ 1000) (ha : Rd shC 7 w w.heap.size A n xs) (hb : Rd shC 7 w w.heap.size B n xs) (hs : xs.all okSh = true) :
    Calls Try.prog 44 #[.slice A n c, .slice B n d] w fun e w' => e = .returned (.bool true) ∧ Below w.heap.size w w' := by
  have HS := Lib.hid hs
  have hz : ((n : Int) != (n : Int)) = false := by simp
  clear hs
  go_enter Try.func44, Try.ntmps44
  go_wp2
  go_loopw [5, 13] (fun _ i wr => ∃ k : Nat, k ≤ n ∧ i = .int .i64 k ∧ Below w.heap.size w wr) (fun _ i _ => n - (intOf i).toNat)
  case atStart => exact ⟨0, Nat.zero_le _, rfl, Below.refl _ _⟩
  case round =>
    obtain ⟨k, hk, rfl, hw⟩ := hrel
    by_cases hlt : k < n
    · obtain ⟨b, off, a, e, f, r, g, l, q, rfl, hbl, hx, h0, h1, h2, h3, h4, h5, h6⟩ := (ha.below hw).sh hlt
      obtain ⟨b', off', a', e', f', r', g', l', q', rfl, hbl', hy, h0', h1', h2', h3', h4', h5', h6'⟩ := (hb.below hw).sh hlt
      rw [hx] at hy
      injection hy with hy
      simp only [Prod.mk.injEq] at hy
      obtain ⟨rfl, rfl, rfl, ⟨rfl, rfl, rfl⟩, rfl⟩ := hy
      have hki : (k : Int) < (n : Int) := by omega
      have hk0 : (0 : Int) ≤ (k : Int) := by omega
      have kc := fun wx => run_neq_sh (a, e, f, (r, g, l), q) wx (List.all_eq_true.1 HS.out _ (List.mem_of_getElem? hx))
      unfold shC at kc
      dsimp only at kc
      clear hx
      go_wp2
      go_quiet (fail)
      go_wp2
      go_roundw
      case rel => exact ⟨k + 1, by omega, by go_num, by (repeat (first | with_reducible assumption | exact Below.refl _ _ | (refine Below.setCell ?_ (by first | exact Nat.le_refl _ | (simp; done) | omega | (simp; omega)) _) | (refine below_drewN ?_ _) | (refine Below.drew ?_) | (refine Below.alloc ?_ (by first | exact Nat.le_refl _ | (simp; done) | omega | (simp; omega)) _) | (refine then_ ?_ (by with_reducible assumption)) | assumption | (refine then_ ?_ (by assumption))))⟩
      case measure => simp [intOf]; omega
    · obtain rfl : k = n := by omega
      go_wp2
      go_ret
      exact ⟨rfl, hw⟩

set_option maxHeartbeats 4000000 in
theorem equalEv_self (A B : Option Addr) (n c d : Nat) (xs : List Ev) (w : World) (hn : n ≤ 1000) (ha : Rd evC 13 w w.heap.size A n xs) (hb : Rd evC 13 w w.heap.size B n xs) (hs : xs.all evB = true) :
    Calls Try.prog 46 #[.slice A n c, .slice B n d] w fun e w' => e = .returned (.bool true) ∧ Below w.heap.size w w' := by
  have HS := Lib.hid hs
  have hz : ((n : Int) != (n : Int)) = false := by simp
  clear hs
  go_enter Try.func46, Try.ntmps46
  go_wp2
  go_loopw [5, 13] (fun _ i wr => ∃ k : Nat, k ≤ n ∧ i = .int .i64 k ∧ Below w.heap.size w wr) (fun _ i _ => n - (intOf i).toNat)
  case atStart => exact ⟨0, Nat.zero_le _, rfl, Below.refl _ _⟩
  case round =>
    obtain ⟨k, hk, rfl, hw⟩ := hrel
    by_cases hlt : k < n
    · obtain ⟨b, off, e, rfl, hbl, hx, h0, h1, h2, h3, h4, h5, h6, h7, h8, h9, h10, h11, h12⟩ := (ha.below hw).ev hlt
      obtain ⟨b', off', e', rfl, hbl', hy, h0', h1', h2', h3', h4', h5', h6', h7', h8', h9', h10', h11', h12'⟩ := (hb.below hw).ev hlt
      rw [hx] at hy
      injection hy with hy
      subst hy
      have hki : (k : Int) < (n : Int) := by omega
      have hk0 : (0 : Int) ≤ (k : Int) := by omega
      have hev := List.all_eq_true.1 HS.out _ (List.mem_of_getElem? hx)
      have hevg : evG e = true := by unfold evB at hev; rw [Bool.and_eq_true] at hev; exact hev.1
      obtain ⟨g1, g2, g3⟩ := ev_good hevg
      have kc := fun wx => run_neq_ev e.k e.n e.z e.s e.c wx g1 g2 g3
      unfold evX at kc
      clear hx hev hevg g1 g2 g3
      go_wp2
      go_quiet (fail)
      go_wp2
      go_roundw
      case rel => exact ⟨k + 1, by omega, by go_num, by (repeat (first | with_reducible assumption | exact Below.refl _ _ | (refine Below.setCell ?_ (by first | exact Nat.le_refl _ | (simp; done) | omega | (simp; omega)) _) | (refine below_drewN ?_ _) | (refine Below.drew ?_) | (refine Below.alloc ?_ (by first | exact Nat.le_refl _ | (simp; done) | omega | (simp; omega)) _) | (refine then_ ?_ (by with_reducible assumption)) | assumption | (refine then_ ?_ (by assumption))))⟩
      case measure => simp [intOf]; omega
    · obtain rfl : k = n := by omega
      go_wp2
      go_ret
      exact ⟨rfl, hw⟩

theorem run_eql_colB (r g b r' g' b' : Nat) (w : World) : (binOp .eql 25 (.agg #[.float .f32 r, .float .f32 g, .float .f32 b]) (.agg #[.float .f32 r', .float .f32 g', .float .f32 b'])).run Try.prog w = .ok (.bool (colEqB (r, g, b) (r', g', b'))) w := by
  rw [run_eql_struct, run_eqIn_col 9998 r g b r' g' b' w]
  rfl
theorem run_eql_colS {c : Col} (h : colB c = true) (w : World) : (binOp .eql 25 (.agg #[.float .f32 c.1, .float .f32 c.2.1, .float .f32 c.2.2]) (.agg #[.float .f32 c.1, .float .f32 c.2.1, .float .f32 c.2.2])).run Try.prog w = .ok (.bool true) w := by
  rw [run_eql_colB, col_self h]
theorem cxE_refl {p : Pt} (h : finP p) : cxE p p = true := cx_self h
theorem bd_self {b : Bd} (h : cwP b.1 ∧ cwP b.2) : bdE b b = true := by
  unfold bdE
  rw [cxE_refl (cwP_fin h.1), cxE_refl (cwP_fin h.2)]; rfl
theorem stp_fin {x : Nat} (h : stpB x = true) : finB x = true := by
  rw [step_parts, Bool.and_eq_true] at h
  exact h.1

theorem RdS.rs {w : World} {s : Shw} {A B L : Option Addr} (h : RdS w s A B L) : Rd shC 7 w w.heap.size A s.sh.length s.sh := h.1
theorem RdS.rb {w : World} {s : Shw} {A B L : Option Addr} (h : RdS w s A B L) : Rd bdC 2 w w.heap.size B s.bs.length s.bs := h.2.1
theorem RdS.rl {w : World} {s : Shw} {A B L : Option Addr} (h : RdS w s A B L) : Rd evC 13 w w.heap.size L s.log.length s.log := h.2.2
/-- a tumble of a good show is itself -/
theorem sameTumble_self (s : Shw) (A B : Option Addr) (c d : Nat) (w : World) (hg : Good s) (hn : s.bs.length ≤ 8) (ha : Rd bdC 2 w w.heap.size A s.bs.length s.bs) (hb : Rd bdC 2 w w.heap.size B s.bs.length s.bs) :
    Calls Try.prog 45 #[.agg #[.int .i64 s.mir, .complex .f32 s.gr.1 s.gr.2, .float .f32 s.loss, .slice A s.bs.length c], .agg #[.int .i64 s.mir, .complex .f32 s.gr.1 s.gr.2, .float .f32 s.loss, .slice B s.bs.length d]] w fun e w' => e = .returned (.bool true) ∧ Below w.heap.size w w' :=
  sameTumble_yes s.mir s.gr s.gr s.loss s.loss A B s.bs.length c d s.bs s.bs w hn ha hb (cxE_refl (point_fin hg.gr)) (eq_self (part_fin hg.loss)) (fun i x y hx hy => by
    rw [hx] at hy
    injection hy with hy
    subst hy
    exact bd_self (hg.cw x (List.mem_of_getElem? hx)))

set_option maxRecDepth 100000 in
set_option maxHeartbeats 8000000 in
theorem sameShow_self (s : Shw) (A B L A' B' L' : Option Addr) (c d q c' d' q' : Nat) (w : World) (hg : Good s) (hk : okS s = true) (ha : RdS w s A B L) (hb : RdS w s A' B' L') :
    Calls Try.prog 16 #[.agg #[.int .i64 s.sz, .float .f32 s.st, .float .f32 s.li.1, .float .f32 s.li.2.1, .float .f32 s.li.2.2, .slice A s.sh.length c, .int .i64 s.mir, .complex .f32 s.gr.1 s.gr.2, .float .f32 s.loss, .slice B s.bs.length d, .int .i64 s.tk, .slice L s.log.length q], .agg #[.int .i64 s.sz, .float .f32 s.st, .float .f32 s.li.1, .float .f32 s.li.2.1, .float .f32 s.li.2.2, .slice A' s.sh.length c', .int .i64 s.mir, .complex .f32 s.gr.1 s.gr.2, .float .f32 s.loss, .slice B' s.bs.length d', .int .i64 s.tk, .slice L' s.log.length q']] w fun e w' => e = .returned (.bool true) ∧ Below w.heap.size w w' := by
  obtain ⟨p1, p2, p3, p4⟩ := okS_parts.1 hk
  have hl := hg.len
  have KS := Lib.hid (fun w h1 h2 => equalSh_self A A' s.sh.length c c' s.sh w (by omega) h1 h2 hg.sh)
  have KT := Lib.hid (fun w h1 h2 => sameTumble_self s B B' d d' w hg p1 h1 h2)
  have KE := Lib.hid (fun w h1 h2 => equalEv_self L L' s.log.length q q' s.log w (by omega) h1 h2 hg.log)
  have kc := fun wx => run_eql_colS hg.li wx
  have ke : (FloatKind.f32.format.order s.st s.st == some .eq) = true := eq_self (stp_fin hg.st)
  have hsz : (s.sz == s.sz) = true := by simp
  have htk : (s.tk == s.tk) = true := by simp
  have HA := Lib.hid ha
  have HB := Lib.hid hb
  clear ha hb hg hk p1 p2 p3 p4 hl
  go_enter Try.func16, Try.ntmps16
  go_upto_region 1 with fail
  have hW := Below.refl w.heap.size w
  have ca := CA.new w #[.int .i64 s.sz, .float .f32 s.st, .float .f32 s.li.1, .float .f32 s.li.2.1, .float .f32 s.li.2.2, .slice A s.sh.length c, .int .i64 s.mir, .complex .f32 s.gr.1 s.gr.2, .float .f32 s.loss, .slice B s.bs.length d, .int .i64 s.tk, .slice L s.log.length q] 33; have fa := FA.new w #[.int .i64 s.sz, .float .f32 s.st, .float .f32 s.li.1, .float .f32 s.li.2.1, .float .f32 s.li.2.2, .slice A s.sh.length c, .int .i64 s.mir, .complex .f32 s.gr.1 s.gr.2, .float .f32 s.loss, .slice B s.bs.length d, .int .i64 s.tk, .slice L s.log.length q] 33; replace hW := hW.alloc (hW.size) (Obj.cells #[.int .i64 s.sz, .float .f32 s.st, .float .f32 s.li.1, .float .f32 s.li.2.1, .float .f32 s.li.2.2, .slice A s.sh.length c, .int .i64 s.mir, .complex .f32 s.gr.1 s.gr.2, .float .f32 s.loss, .slice B s.bs.length d, .int .i64 s.tk, .slice L s.log.length q] 33); obtain ⟨V1, hV1e⟩ : ∃ V1, V1 = w.alloc (Obj.cells #[.int .i64 s.sz, .float .f32 s.st, .float .f32 s.li.1, .float .f32 s.li.2.1, .float .f32 s.li.2.2, .slice A s.sh.length c, .int .i64 s.mir, .complex .f32 s.gr.1 s.gr.2, .float .f32 s.loss, .slice B s.bs.length d, .int .i64 s.tk, .slice L s.log.length q] 33) := ⟨_, rfl⟩; have zV1 : V1.heap.size = w.heap.size + 1 := (by rw [hV1e]; simp); rw [← hV1e] at ca fa hW; rw [← hV1e]; clear hV1e; have la := ca.lt
  have cb := CA.new V1 #[.int .i64 s.sz, .float .f32 s.st, .float .f32 s.li.1, .float .f32 s.li.2.1, .float .f32 s.li.2.2, .slice A' s.sh.length c', .int .i64 s.mir, .complex .f32 s.gr.1 s.gr.2, .float .f32 s.loss, .slice B' s.bs.length d', .int .i64 s.tk, .slice L' s.log.length q'] 33; have fb := FA.new V1 #[.int .i64 s.sz, .float .f32 s.st, .float .f32 s.li.1, .float .f32 s.li.2.1, .float .f32 s.li.2.2, .slice A' s.sh.length c', .int .i64 s.mir, .complex .f32 s.gr.1 s.gr.2, .float .f32 s.loss, .slice B' s.bs.length d', .int .i64 s.tk, .slice L' s.log.length q'] 33; replace ca := ca.alloc (Obj.cells #[.int .i64 s.sz, .float .f32 s.st, .float .f32 s.li.1, .float .f32 s.li.2.1, .float .f32 s.li.2.2, .slice A' s.sh.length c', .int .i64 s.mir, .complex .f32 s.gr.1 s.gr.2, .float .f32 s.loss, .slice B' s.bs.length d', .int .i64 s.tk, .slice L' s.log.length q'] 33); replace fa := fa.alloc la (Obj.cells #[.int .i64 s.sz, .float .f32 s.st, .float .f32 s.li.1, .float .f32 s.li.2.1, .float .f32 s.li.2.2, .slice A' s.sh.length c', .int .i64 s.mir, .complex .f32 s.gr.1 s.gr.2, .float .f32 s.loss, .slice B' s.bs.length d', .int .i64 s.tk, .slice L' s.log.length q'] 33); replace hW := hW.alloc (hW.size) (Obj.cells #[.int .i64 s.sz, .float .f32 s.st, .float .f32 s.li.1, .float .f32 s.li.2.1, .float .f32 s.li.2.2, .slice A' s.sh.length c', .int .i64 s.mir, .complex .f32 s.gr.1 s.gr.2, .float .f32 s.loss, .slice B' s.bs.length d', .int .i64 s.tk, .slice L' s.log.length q'] 33); obtain ⟨V, hVe⟩ : ∃ V, V = V1.alloc (Obj.cells #[.int .i64 s.sz, .float .f32 s.st, .float .f32 s.li.1, .float .f32 s.li.2.1, .float .f32 s.li.2.2, .slice A' s.sh.length c', .int .i64 s.mir, .complex .f32 s.gr.1 s.gr.2, .float .f32 s.loss, .slice B' s.bs.length d', .int .i64 s.tk, .slice L' s.log.length q'] 33) := ⟨_, rfl⟩; have zV : V.heap.size = V1.heap.size + 1 := (by rw [hVe]; simp); rw [← hVe] at cb fb ca fa hW; rw [← hVe]; clear hVe; have lb := cb.lt; replace la := ca.lt
  rw [zV1] at cb fb lb zV
  clear zV1
  have a0 := ca 0 _ rfl; have a1 := ca 1 _ rfl; have a2 := ca 2 _ rfl; have a3 := ca 3 _ rfl; have a4 := ca 4 _ rfl; have a5 := ca 5 _ rfl; have a6 := ca 6 _ rfl; have a7 := ca 7 _ rfl; have a8 := ca 8 _ rfl; have a9 := ca 9 _ rfl; have a10 := ca 10 _ rfl; have a11 := ca 11 _ rfl
  have b0 := cb 0 _ rfl; have b1 := cb 1 _ rfl; have b2 := cb 2 _ rfl; have b3 := cb 3 _ rfl; have b4 := cb 4 _ rfl; have b5 := cb 5 _ rfl; have b6 := cb 6 _ rfl; have b7 := cb 7 _ rfl; have b8 := cb 8 _ rfl; have b9 := cb 9 _ rfl; have b10 := cb 10 _ rfl; have b11 := cb 11 _ rfl
  go_wp2_with fail
  (with_reducible refine (KS.out _ (HA.out.step hW).rs (HB.out.step hW).rs).mono ?_)
  rintro r w1 ⟨rfl, hb1⟩
  clear a0 a1 a2 a3 a4 a5 a6 a7 a8 a9 a10 a11 b0 b1 b2 b3 b4 b5 b6 b7 b8 b9 b10 b11
  replace ca := ca.keep hb1; replace fa := fa.keep hb1 la; replace la := ca.lt; replace cb := cb.keep hb1; replace fb := fb.keep hb1 lb; replace lb := cb.lt; replace hW := then_ hW hb1
  have a0 := ca 0 _ rfl; have a1 := ca 1 _ rfl; have a2 := ca 2 _ rfl; have a3 := ca 3 _ rfl; have a4 := ca 4 _ rfl; have a5 := ca 5 _ rfl; have a6 := ca 6 _ rfl; have a7 := ca 7 _ rfl; have a8 := ca 8 _ rfl; have a9 := ca 9 _ rfl; have a10 := ca 10 _ rfl; have a11 := ca 11 _ rfl
  have b0 := cb 0 _ rfl; have b1 := cb 1 _ rfl; have b2 := cb 2 _ rfl; have b3 := cb 3 _ rfl; have b4 := cb 4 _ rfl; have b5 := cb 5 _ rfl; have b6 := cb 6 _ rfl; have b7 := cb 7 _ rfl; have b8 := cb 8 _ rfl; have b9 := cb 9 _ rfl; have b10 := cb 10 _ rfl; have b11 := cb 11 _ rfl
  clear hb1
  go_wp2_with fail
  (with_reducible refine (KT.out _ (HA.out.step hW).rb (HB.out.step hW).rb).mono ?_)
  rintro r w2 ⟨rfl, hb1⟩
  clear a0 a1 a2 a3 a4 a5 a6 a7 a8 a9 a10 a11 b0 b1 b2 b3 b4 b5 b6 b7 b8 b9 b10 b11
  replace ca := ca.keep hb1; replace fa := fa.keep hb1 la; replace la := ca.lt; replace cb := cb.keep hb1; replace fb := fb.keep hb1 lb; replace lb := cb.lt; replace hW := then_ hW hb1
  have a0 := ca 0 _ rfl; have a1 := ca 1 _ rfl; have a2 := ca 2 _ rfl; have a3 := ca 3 _ rfl; have a4 := ca 4 _ rfl; have a5 := ca 5 _ rfl; have a6 := ca 6 _ rfl; have a7 := ca 7 _ rfl; have a8 := ca 8 _ rfl; have a9 := ca 9 _ rfl; have a10 := ca 10 _ rfl; have a11 := ca 11 _ rfl
  have b0 := cb 0 _ rfl; have b1 := cb 1 _ rfl; have b2 := cb 2 _ rfl; have b3 := cb 3 _ rfl; have b4 := cb 4 _ rfl; have b5 := cb 5 _ rfl; have b6 := cb 6 _ rfl; have b7 := cb 7 _ rfl; have b8 := cb 8 _ rfl; have b9 := cb 9 _ rfl; have b10 := cb 10 _ rfl; have b11 := cb 11 _ rfl
  clear hb1
  go_wp2_with fail
  (with_reducible refine (KE.out _ (HA.out.step hW).rl (HB.out.step hW).rl).mono ?_)
  rintro r w3 ⟨rfl, hb1⟩
  clear a0 a1 a2 a3 a4 a5 a6 a7 a8 a9 a10 a11 b0 b1 b2 b3 b4 b5 b6 b7 b8 b9 b10 b11
  go_wp2
  go_ret
  exact ⟨rfl, then_ hW hb1⟩
end Go.Proofs.Ytoafldgngbaddaa

/- eqColourS, eqPicture answer true of slices that read alike. -/
namespace Go.Proofs.Ytoafldgngbaddaa
open Go.RowKit

end Go.Proofs.Ytoafldgngbaddaa

/- A law's argument: slices of structs of floats, opened. -/
namespace Go.Proofs.Ytoafldgngbaddaa
open Go.ChangeShapes Go.WideShapes Go.ChangeAt Go.RowKit Go.Joins Go.Deep

section
variable {H : Type} {enc : TypeId × Value → H} {P : Program} {w : World} {base : Nat} {spare : Nat → Bool} {held : Bool}
theorem trod_float {t : TypeId} {k : FloatKind} {v : Value} {fuel : Nat} {y : DataW H × List MemPlace} (ht : P.underlying t = some (.float k)) (h : DataW.trod enc P w base spare held fuel t [v] = some y) : ∃ b, v = .float k b := by
  cases fuel with
  | zero => simp [DataW.trod] at h
  | succ n =>
    unfold DataW.trod at h
    rw [ht] at h
    cases v <;> simp at h
    rename_i k' b
    by_cases e : k' = k
    · subst e; exact ⟨b, rfl⟩
    · exfalso; revert h; simp_all
end

theorem list_of {α : Type} (n : Nat) (p : Nat → α → Prop) (h : ∀ i, i < n → ∃ x, p i x) : ∃ xs : List α, xs.length = n ∧ ∀ (k : Nat) x, xs[k]? = some x → p k x := by
  induction n with
  | zero => exact ⟨[], rfl, fun k x hx => by simp at hx⟩
  | succ n ih =>
    obtain ⟨xs, hl, hp⟩ := ih (fun i hi => h i (by omega))
    obtain ⟨x, hx⟩ := h n (by omega)
    refine ⟨xs ++ [x], by simp [hl], fun k y hy => ?_⟩
    by_cases hk : k < n
    · rw [List.getElem?_append_left (by omega)] at hy
      exact hp k y hy
    · have hkn : k = n := by
        have := (List.getElem?_eq_some_iff.1 hy).1
        simp [hl] at this
        omega
      subst hkn
      rw [List.getElem?_append_right (by omega), hl] at hy
      simp at hy
      subst hy
      exact hx

/-- cells at the places of a row, brought into the form 'Rd' -/
theorem rd_of_cells {α : Type} {enc : α → List Value} {sz : Nat} {w : World} {a : Addr} {n : Nat} (hsz : 0 < sz) (he : ∀ x, (enc x).length = sz)
    (h : ∀ i, i < n → ∃ x : α, ∀ j u, (enc x)[j]? = some u → w.cell? (a.add (i * sz + j)) = some u) : ∃ xs, Rd enc sz w w.heap.size (some a) n xs := by
  obtain ⟨xs, hl, hp⟩ := list_of n _ h
  refine ⟨xs, hl, fun hn => ?_⟩
  obtain ⟨x, hx⟩ := h 0 hn
  have h0 : ∃ u, (enc x)[0]? = some u := ⟨_, List.getElem?_eq_getElem (by rw [he]; exact hsz)⟩
  obtain ⟨u, hu⟩ := h0
  have hc := hx 0 u hu
  have ha : a.add (0 * sz + 0) = a := by simp [Addr.add]
  rw [ha] at hc
  have hs : a.spot = none := by
    unfold World.cell? at hc
    split at hc
    · cases hsp : a.spot with
      | none => rfl
      | some q => simp [hsp] at hc
    · cases hc
  obtain ⟨b, off, sp⟩ := a
  simp only at hs
  subst hs
  refine ⟨b, off, rfl, World.block_lt_of_cell? w _ hc, fun k x hx j u hu => ?_⟩
  have := hp k x hx j u hu
  unfold Addr.add at this
  split at this
  · rename_i h0
    rw [show off + k * sz + j = off from by omega]
    exact this
  · rw [show off + k * sz + j = off + (k * sz + j) from by omega]
    exact this

theorem rd_of_cells_q {α : Type} {enc : α → List Value} {sz : Nat} {w : World} {a : Addr} {n : Nat} {Q : α → Prop} (hsz : 0 < sz) (he : ∀ x, (enc x).length = sz)
    (h : ∀ i, i < n → ∃ x : α, Q x ∧ ∀ j u, (enc x)[j]? = some u → w.cell? (a.add (i * sz + j)) = some u) : ∃ xs, Rd enc sz w w.heap.size (some a) n xs ∧ ∀ x ∈ xs, Q x := by
  obtain ⟨xs, hl, hp⟩ := list_of n _ h
  refine ⟨xs, ⟨hl, fun hn => ?_⟩, fun x hx => ?_⟩
  · obtain ⟨x, _, hx⟩ := h 0 hn
    have h0 : ∃ u, (enc x)[0]? = some u := ⟨_, List.getElem?_eq_getElem (by rw [he]; exact hsz)⟩
    obtain ⟨u, hu⟩ := h0
    have hc := hx 0 u hu
    have ha : a.add (0 * sz + 0) = a := by simp [Addr.add]
    rw [ha] at hc
    have hs : a.spot = none := by
      unfold World.cell? at hc
      split at hc
      · cases hsp : a.spot with
        | none => rfl
        | some q => simp [hsp] at hc
      · cases hc
    obtain ⟨b, off, sp⟩ := a
    simp only at hs
    subst hs
    refine ⟨b, off, rfl, World.block_lt_of_cell? w _ hc, fun k x hx j u hu => ?_⟩
    have := (hp k x hx).2 j u hu
    unfold Addr.add at this
    split at this
    · rename_i h0
      rw [show off + k * sz + j = off from by omega]
      exact this
    · rw [show off + k * sz + j = off + (k * sz + j) from by omega]
      exact this
  · obtain ⟨k, hk⟩ := List.getElem?_of_mem hx
    exact (hp k x hk).1

section
variable {H : Type} {enc : TypeId × Value → H} {P : Program} {w : World} {base : Nat} {spare : Nat → Bool} {held : Bool}
/-- a slice of bytes -/
theorem open_bytes {r : Reach} {b0 : Nat} {t e : TypeId} {v : Value} {d : DataW H} {ps : List MemPlace} (ht : P.underlying t = some (.slice e)) (he : P.underlying e = some (.int .u8)) (hc : P.cellsOf e = 1)
    (hv : Value.okWide P w r b0 t v) (h : DataW.Trod enc P w base spare held t v d ps) :
    ∃ A n c bs, v = .slice A n c ∧ n ≤ maxLen ∧ Rd byteC 1 w w.heap.size A n bs ∧ ∀ x ∈ bs, 0 ≤ x ∧ x ≤ 255 := by
  obtain ⟨a0, len, cap, rfl⟩ := okWide_slice ht hv
  obtain ⟨fuel, hf⟩ := h
  rcases open_ints ht he hc hf with ⟨hcs, _⟩ | ⟨a, l, c, zs, hcs, _, hl, hm, hz, _, hcell, hwz⟩
  · simp [Value.cells] at hcs
    obtain ⟨rfl, rfl, rfl⟩ := hcs
    exact ⟨none, 0, 0, [], rfl, by simp [maxLen], Rd.nil_, fun x hx => by cases hx⟩
  · simp [Value.cells] at hcs
    obtain ⟨rfl, rfl, rfl⟩ := hcs
    have hx : ∃ xs, Rd byteC 1 w w.heap.size (some a) len xs ∧ ∀ x ∈ xs, 0 ≤ x ∧ x ≤ 255 := by
      refine rd_of_cells_q (by omega) (fun _ => rfl) (fun i hi => ?_)
      have hlt : i < zs.length := by rw [hz]; split <;> omega
      have e := hcell i hlt
      have hw := hwz (zs.getD i 0) (by rw [List.getD_eq_getElem?_getD, List.getElem?_eq_getElem hlt]; exact List.getElem_mem hlt)
      generalize zs.getD i 0 = z at *
      refine ⟨z, ?_, fun j u hu => ?_⟩
      · simp [Lit.wf, IntKind.min, IntKind.max, IntKind.signed, IntKind.bits] at hw; omega
      · have hj : j = 0 := by
          have := (List.getElem?_eq_some_iff.1 hu).1
          simp [byteC] at this
          exact this
        subst hj
        simp only [Nat.mul_one, Nat.add_zero]
        rw [e]
        exact hu
    obtain ⟨xs, hx, hq⟩ := hx
    exact ⟨some a, len, cap, xs, rfl, by omega, hx, hq⟩
end

section
variable {H : Type} {enc : TypeId × Value → H} {w : World} {base : Nat} {spare : Nat → Bool} {held : Bool}
end
end Go.Proofs.Ytoafldgngbaddaa
