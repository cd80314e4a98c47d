
/- IsShow of a show without glass, beads and events; both versions. -/
import Derived.Test.YtkhlaifjfdecoaaTum
import Derived.Test.YtkhlaifjfdecoaaEq2
import Derived.Test.YtkhlaifjfdecoaaFltM
import Derived.Test.YtkhlaifjfdecoaaFoldS
namespace Go.Proofs.Ytkhlaifjfdecoaa
open Go.RowKit
attribute [local go_sem] run_store_float run_store_complex

def stpB (x : Nat) : Bool := gtB x 0 && leB x 1132462080
def newOk (kind size : Int) (step r g b : Nat) : Bool := inB size 1 8 && (stpB step && (colB (r, g, b) && inB kind 0 3))
def bareV (kind : Int) : Value := .agg #[.int .i64 kind, .complex .f32 0 0, .float .f32 0, .slice none 0 0]
def newV (kind size : Int) (step r g b : Nat) : Value := .agg #[.int .i64 size, .float .f32 step, .float .f32 r, .float .f32 g, .float .f32 b, .slice none 0 0, .int .i64 kind, .complex .f32 0 0, .float .f32 0, .slice none 0 0, .int .i64 0, .slice none 0 0]

theorem isStep_any (x : Nat) (w : World) :
    Calls Try.prog 30 #[.float .f32 x] w fun e w' => e = .returned (.bool (stpB x)) ∧ w = w' := by
  have r : stpB x = (gtB x 0 && leB x 1132462080) := rfl
  cases h1 : gtB x 0
  all_goals
    rw [h1] at r
    have e1 : (FloatKind.f32.format.order x 0 == some .gt) = gtB x 0 := rfl
    rw [h1] at e1
    have R := Lib.hid r
    clear r h1
    go_enter Try.func30, Try.ntmps30
    go_wp2
    go_ret
    exact ⟨by rw [R.out]; simp [leB, ordB, FloatKind.format], rfl⟩

theorem indexShard_nil (F : Value) (w : World) :
    Calls Try.prog 60 #[.slice none 0 0, F] w fun e w' => e = .returned (.int .i64 (-1)) ∧ w = w' := by
  go_enter Try.func60, Try.ntmps60
  go_wp2
  go_loopw [8] (fun i wr => i = .int .i64 0 ∧ w = wr) (fun _ _ => 0)
  case atStart => exact ⟨rfl, rfl⟩
  case round =>
    obtain ⟨rfl, rfl⟩ := hrel
    go_wp2
    go_ret
    exact ⟨rfl, rfl⟩
theorem containsShard_nil (F : Value) (w : World) :
    Calls Try.prog 49 #[.slice none 0 0, F] w fun e w' => e = .returned (.bool false) ∧ w = w' := by
  go_enter Try.func49, Try.ntmps49
  go_wp2_with (go_at_call 60; refine (indexShard_nil _ _).mono ?_; rintro e w' ⟨rfl, rfl⟩)
  go_ret
  exact ⟨rfl, rfl⟩
theorem indexEvent_nil (F : Value) (w : World) :
    Calls Try.prog 57 #[.slice none 0 0, F] w fun e w' => e = .returned (.int .i64 (-1)) ∧ w = w' := by
  go_enter Try.func57, Try.ntmps57
  go_wp2
  go_loopw [8] (fun i wr => i = .int .i64 0 ∧ w = wr) (fun _ _ => 0)
  case atStart => exact ⟨rfl, rfl⟩
  case round =>
    obtain ⟨rfl, rfl⟩ := hrel
    go_wp2
    go_ret
    exact ⟨rfl, rfl⟩
theorem containsEvent_nil (F : Value) (w : World) :
    Calls Try.prog 34 #[.slice none 0 0, F] w fun e w' => e = .returned (.bool false) ∧ w = w' := by
  go_enter Try.func34, Try.ntmps34
  go_wp2_with (go_at_call 57; refine (indexEvent_nil _ _).mono ?_; rintro e w' ⟨rfl, rfl⟩)
  go_ret
  exact ⟨rfl, rfl⟩
theorem areShards_nil (w : World) :
    Calls Try.prog 32 #[.slice none 0 0] w fun e w' => e = .returned (.bool true) ∧ w = w' := by
  go_enter Try.func32, Try.ntmps32
  go_wp2_with (go_at_call 49; refine (containsShard_nil _ _).mono ?_; rintro e w' ⟨rfl, rfl⟩)
  go_ret
  exact ⟨rfl, rfl⟩
theorem rd_nil {α : Type} (enc : α → List Value) (sz : Nat) (w : World) : Rd enc sz w w.heap.size none 0 [] := ⟨rfl, fun h => by omega⟩
theorem tumB_nil (kind : Int) : tumB kind (0, 0) 0 [] = inB kind 0 3 := by
  have h1 : pointB 0 0 = true := by decide +kernel
  have h2 : partB 0 = true := by decide +kernel
  unfold tumB
  rw [h1, h2]
  simp
theorem isTumble_nil (kind : Int) (w : World) :
    Calls Try.prog 33 #[bareV kind] w fun e w' => e = .returned (.bool (inB kind 0 3)) ∧ Below w.heap.size w w' := by
  have := isTumble_any kind (0, 0) 0 none 0 0 [] w (by omega) (rd_nil _ _ _)
  rw [tumB_nil] at this
  exact this

set_option maxRecDepth 100000 in
set_option maxHeartbeats 4000000 in
theorem isShow_new (kind size : Int) (step r g b : Nat) (w : World) :
    Calls Try.prog 11 #[newV kind size step r g b] w fun e w' => e = .returned (.bool (newOk kind size step r g b)) ∧ Below w.heap.size w w' := by
  unfold newV
  cases h1 : inB size 1 8
  · have R := Lib.hid (show newOk kind size step r g b = false by unfold newOk; rw [h1]; rfl)
    go_enter Try.func11, Try.ntmps11
    go_wp2_with (go_at_call 29; (with_reducible refine (within_any size 1 8 _).mono ?_); rintro e w' ⟨rfl, rfl⟩; simp only [h1])
    go_ret
    exact ⟨by rw [R.out]; rfl, by (repeat (first | with_reducible assumption | exact Below.refl _ _ | (refine Below.setCell ?_ (by first | exact Nat.le_refl _ | (simp; done) | omega | (simp; omega)) _) | (refine below_drewN ?_ _) | (refine Below.drew ?_) | (refine Below.alloc ?_ (by first | exact Nat.le_refl _ | (simp; done) | omega | (simp; omega)) _) | (refine then_ ?_ (by with_reducible assumption)) | assumption | (refine then_ ?_ (by assumption))))⟩
  · cases h2 : stpB step
    · have R := Lib.hid (show newOk kind size step r g b = false by unfold newOk; rw [h1, h2]; rfl)
      go_enter Try.func11, Try.ntmps11
      go_wp2_with (first
        | (go_at_call 29; (with_reducible refine (within_any size 1 8 _).mono ?_); rintro e w' ⟨rfl, rfl⟩; simp only [h1])
        | (go_at_call 30; (with_reducible refine (isStep_any _ _).mono ?_); rintro e w' ⟨rfl, rfl⟩; simp only [h2]))
      go_ret
      exact ⟨by rw [R.out]; rfl, by (repeat (first | with_reducible assumption | exact Below.refl _ _ | (refine Below.setCell ?_ (by first | exact Nat.le_refl _ | (simp; done) | omega | (simp; omega)) _) | (refine below_drewN ?_ _) | (refine Below.drew ?_) | (refine Below.alloc ?_ (by first | exact Nat.le_refl _ | (simp; done) | omega | (simp; omega)) _) | (refine then_ ?_ (by with_reducible assumption)) | assumption | (refine then_ ?_ (by assumption))))⟩
    · cases h3 : colB (r, g, b)
      · have R := Lib.hid (show newOk kind size step r g b = false by unfold newOk; rw [h1, h2, h3]; rfl)
        go_enter Try.func11, Try.ntmps11
        go_wp2_with (first
          | (go_at_call 29; (with_reducible refine (within_any size 1 8 _).mono ?_); rintro e w' ⟨rfl, rfl⟩; simp only [h1])
          | (go_at_call 30; (with_reducible refine (isStep_any _ _).mono ?_); rintro e w' ⟨rfl, rfl⟩; simp only [h2])
          | (go_at_call 31; go_loud ((with_reducible refine (isColour_any r g b _).mono ?_); rintro e w1 ⟨rfl, hb1⟩; simp only [h3])))
        go_ret
        exact ⟨by rw [R.out]; rfl, by (repeat (first | with_reducible assumption | exact Below.refl _ _ | (refine Below.setCell ?_ (by first | exact Nat.le_refl _ | (simp; done) | omega | (simp; omega)) _) | (refine below_drewN ?_ _) | (refine Below.drew ?_) | (refine Below.alloc ?_ (by first | exact Nat.le_refl _ | (simp; done) | omega | (simp; omega)) _) | (refine then_ ?_ (by with_reducible assumption)) | assumption | (refine then_ ?_ (by assumption))))⟩
      · have KT := fun w => isTumble_nil kind w
        unfold bareV at KT
        have ht : inB 0 0 200 = true := by decide
        cases h4 : inB kind 0 3
        · have R := Lib.hid (show newOk kind size step r g b = false by unfold newOk; rw [h1, h2, h3, h4]; rfl)
          go_enter Try.func11, Try.ntmps11
          go_wp2_with (first
      | (go_at_call 29; (with_reducible refine (within_any size 1 8 _).mono ?_); rintro e w' ⟨rfl, rfl⟩; simp only [h1])
      | (go_at_call 29; (with_reducible refine (within_any 0 0 200 _).mono ?_); rintro e w' ⟨rfl, rfl⟩; simp only [ht])
      | (go_at_call 30; (with_reducible refine (isStep_any _ _).mono ?_); rintro e w' ⟨rfl, rfl⟩; simp only [h2])
      | (go_at_call 31; (with_reducible refine (isColour_any r g b _).mono ?_); rintro e w1 ⟨rfl, hb1⟩; simp only [h3]; have kc_0 := keepC (p := ⟨w.heap.size, 0, none⟩) (v := .int .i64 size) (by first | assumption | (simp [go_sem]; done) | (simp [go_sem, *]; done)) hb1; have kc_1 := keepC (p := ⟨w.heap.size, 1, none⟩) (v := .float .f32 step) (by first | assumption | (simp [go_sem]; done) | (simp [go_sem, *]; done)) hb1; have kc_2 := keepC (p := ⟨w.heap.size, 2, none⟩) (v := .float .f32 r) (by first | assumption | (simp [go_sem]; done) | (simp [go_sem, *]; done)) hb1; have kc_3 := keepC (p := ⟨w.heap.size, 3, none⟩) (v := .float .f32 g) (by first | assumption | (simp [go_sem]; done) | (simp [go_sem, *]; done)) hb1; have kc_4 := keepC (p := ⟨w.heap.size, 4, none⟩) (v := .float .f32 b) (by first | assumption | (simp [go_sem]; done) | (simp [go_sem, *]; done)) hb1; have kc_5 := keepC (p := ⟨w.heap.size, 5, none⟩) (v := .slice none 0 0) (by first | assumption | (simp [go_sem]; done) | (simp [go_sem, *]; done)) hb1; have kc_6 := keepC (p := ⟨w.heap.size, 6, none⟩) (v := .int .i64 kind) (by first | assumption | (simp [go_sem]; done) | (simp [go_sem, *]; done)) hb1; have kc_7 := keepC (p := ⟨w.heap.size, 7, none⟩) (v := .complex .f32 0 0) (by first | assumption | (simp [go_sem]; done) | (simp [go_sem, *]; done)) hb1; have kc_8 := keepC (p := ⟨w.heap.size, 8, none⟩) (v := .float .f32 0) (by first | assumption | (simp [go_sem]; done) | (simp [go_sem, *]; done)) hb1; have kc_9 := keepC (p := ⟨w.heap.size, 9, none⟩) (v := .slice none 0 0) (by first | assumption | (simp [go_sem]; done) | (simp [go_sem, *]; done)) hb1; have kc_10 := keepC (p := ⟨w.heap.size, 10, none⟩) (v := .int .i64 0) (by first | assumption | (simp [go_sem]; done) | (simp [go_sem, *]; done)) hb1; have kc_11 := keepC (p := ⟨w.heap.size, 11, none⟩) (v := .slice none 0 0) (by first | assumption | (simp [go_sem]; done) | (simp [go_sem, *]; done)) hb1; have lb_ := (show w.heap.size < _ from World.block_lt_of_cell? _ _ kc_0))
      | (go_at_call 32; (with_reducible refine (areShards_nil _).mono ?_); rintro e w' ⟨rfl, rfl⟩)
      | (go_at_call 33; (with_reducible refine (KT _).mono ?_); rintro e w2 ⟨rfl, hb2⟩; simp only [h4]; have kc_0 := keepC (p := ⟨w.heap.size, 0, none⟩) (v := .int .i64 size) (by first | assumption | (simp [go_sem]; done) | (simp [go_sem, *]; done)) hb2; have kc_1 := keepC (p := ⟨w.heap.size, 1, none⟩) (v := .float .f32 step) (by first | assumption | (simp [go_sem]; done) | (simp [go_sem, *]; done)) hb2; have kc_2 := keepC (p := ⟨w.heap.size, 2, none⟩) (v := .float .f32 r) (by first | assumption | (simp [go_sem]; done) | (simp [go_sem, *]; done)) hb2; have kc_3 := keepC (p := ⟨w.heap.size, 3, none⟩) (v := .float .f32 g) (by first | assumption | (simp [go_sem]; done) | (simp [go_sem, *]; done)) hb2; have kc_4 := keepC (p := ⟨w.heap.size, 4, none⟩) (v := .float .f32 b) (by first | assumption | (simp [go_sem]; done) | (simp [go_sem, *]; done)) hb2; have kc_5 := keepC (p := ⟨w.heap.size, 5, none⟩) (v := .slice none 0 0) (by first | assumption | (simp [go_sem]; done) | (simp [go_sem, *]; done)) hb2; have kc_6 := keepC (p := ⟨w.heap.size, 6, none⟩) (v := .int .i64 kind) (by first | assumption | (simp [go_sem]; done) | (simp [go_sem, *]; done)) hb2; have kc_7 := keepC (p := ⟨w.heap.size, 7, none⟩) (v := .complex .f32 0 0) (by first | assumption | (simp [go_sem]; done) | (simp [go_sem, *]; done)) hb2; have kc_8 := keepC (p := ⟨w.heap.size, 8, none⟩) (v := .float .f32 0) (by first | assumption | (simp [go_sem]; done) | (simp [go_sem, *]; done)) hb2; have kc_9 := keepC (p := ⟨w.heap.size, 9, none⟩) (v := .slice none 0 0) (by first | assumption | (simp [go_sem]; done) | (simp [go_sem, *]; done)) hb2; have kc_10 := keepC (p := ⟨w.heap.size, 10, none⟩) (v := .int .i64 0) (by first | assumption | (simp [go_sem]; done) | (simp [go_sem, *]; done)) hb2; have kc_11 := keepC (p := ⟨w.heap.size, 11, none⟩) (v := .slice none 0 0) (by first | assumption | (simp [go_sem]; done) | (simp [go_sem, *]; done)) hb2; have lb_ := (show w.heap.size < _ from World.block_lt_of_cell? _ _ kc_0))
      | (go_at_call 34; (with_reducible refine (containsEvent_nil _ _).mono ?_); rintro e w' ⟨rfl, rfl⟩))
          go_ret
          exact ⟨by rw [R.out]; rfl, by (repeat (first | with_reducible assumption | exact Below.refl _ _ | (refine Below.setCell ?_ (by first | exact Nat.le_refl _ | (simp; done) | omega | (simp; omega)) _) | (refine below_drewN ?_ _) | (refine Below.drew ?_) | (refine Below.alloc ?_ (by first | exact Nat.le_refl _ | (simp; done) | omega | (simp; omega)) _) | (refine then_ ?_ (by with_reducible assumption)) | assumption | (refine then_ ?_ (by assumption))))⟩
        · have R := Lib.hid (show newOk kind size step r g b = true by unfold newOk; rw [h1, h2, h3, h4]; rfl)
          go_enter Try.func11, Try.ntmps11
          go_wp2_with (first
      | (go_at_call 29; (with_reducible refine (within_any size 1 8 _).mono ?_); rintro e w' ⟨rfl, rfl⟩; simp only [h1])
      | (go_at_call 29; (with_reducible refine (within_any 0 0 200 _).mono ?_); rintro e w' ⟨rfl, rfl⟩; simp only [ht])
      | (go_at_call 30; (with_reducible refine (isStep_any _ _).mono ?_); rintro e w' ⟨rfl, rfl⟩; simp only [h2])
      | (go_at_call 31; (with_reducible refine (isColour_any r g b _).mono ?_); rintro e w1 ⟨rfl, hb1⟩; simp only [h3]; have kc_0 := keepC (p := ⟨w.heap.size, 0, none⟩) (v := .int .i64 size) (by first | assumption | (simp [go_sem]; done) | (simp [go_sem, *]; done)) hb1; have kc_1 := keepC (p := ⟨w.heap.size, 1, none⟩) (v := .float .f32 step) (by first | assumption | (simp [go_sem]; done) | (simp [go_sem, *]; done)) hb1; have kc_2 := keepC (p := ⟨w.heap.size, 2, none⟩) (v := .float .f32 r) (by first | assumption | (simp [go_sem]; done) | (simp [go_sem, *]; done)) hb1; have kc_3 := keepC (p := ⟨w.heap.size, 3, none⟩) (v := .float .f32 g) (by first | assumption | (simp [go_sem]; done) | (simp [go_sem, *]; done)) hb1; have kc_4 := keepC (p := ⟨w.heap.size, 4, none⟩) (v := .float .f32 b) (by first | assumption | (simp [go_sem]; done) | (simp [go_sem, *]; done)) hb1; have kc_5 := keepC (p := ⟨w.heap.size, 5, none⟩) (v := .slice none 0 0) (by first | assumption | (simp [go_sem]; done) | (simp [go_sem, *]; done)) hb1; have kc_6 := keepC (p := ⟨w.heap.size, 6, none⟩) (v := .int .i64 kind) (by first | assumption | (simp [go_sem]; done) | (simp [go_sem, *]; done)) hb1; have kc_7 := keepC (p := ⟨w.heap.size, 7, none⟩) (v := .complex .f32 0 0) (by first | assumption | (simp [go_sem]; done) | (simp [go_sem, *]; done)) hb1; have kc_8 := keepC (p := ⟨w.heap.size, 8, none⟩) (v := .float .f32 0) (by first | assumption | (simp [go_sem]; done) | (simp [go_sem, *]; done)) hb1; have kc_9 := keepC (p := ⟨w.heap.size, 9, none⟩) (v := .slice none 0 0) (by first | assumption | (simp [go_sem]; done) | (simp [go_sem, *]; done)) hb1; have kc_10 := keepC (p := ⟨w.heap.size, 10, none⟩) (v := .int .i64 0) (by first | assumption | (simp [go_sem]; done) | (simp [go_sem, *]; done)) hb1; have kc_11 := keepC (p := ⟨w.heap.size, 11, none⟩) (v := .slice none 0 0) (by first | assumption | (simp [go_sem]; done) | (simp [go_sem, *]; done)) hb1; have lb_ := (show w.heap.size < _ from World.block_lt_of_cell? _ _ kc_0))
      | (go_at_call 32; (with_reducible refine (areShards_nil _).mono ?_); rintro e w' ⟨rfl, rfl⟩)
      | (go_at_call 33; (with_reducible refine (KT _).mono ?_); rintro e w2 ⟨rfl, hb2⟩; simp only [h4]; have kc_0 := keepC (p := ⟨w.heap.size, 0, none⟩) (v := .int .i64 size) (by first | assumption | (simp [go_sem]; done) | (simp [go_sem, *]; done)) hb2; have kc_1 := keepC (p := ⟨w.heap.size, 1, none⟩) (v := .float .f32 step) (by first | assumption | (simp [go_sem]; done) | (simp [go_sem, *]; done)) hb2; have kc_2 := keepC (p := ⟨w.heap.size, 2, none⟩) (v := .float .f32 r) (by first | assumption | (simp [go_sem]; done) | (simp [go_sem, *]; done)) hb2; have kc_3 := keepC (p := ⟨w.heap.size, 3, none⟩) (v := .float .f32 g) (by first | assumption | (simp [go_sem]; done) | (simp [go_sem, *]; done)) hb2; have kc_4 := keepC (p := ⟨w.heap.size, 4, none⟩) (v := .float .f32 b) (by first | assumption | (simp [go_sem]; done) | (simp [go_sem, *]; done)) hb2; have kc_5 := keepC (p := ⟨w.heap.size, 5, none⟩) (v := .slice none 0 0) (by first | assumption | (simp [go_sem]; done) | (simp [go_sem, *]; done)) hb2; have kc_6 := keepC (p := ⟨w.heap.size, 6, none⟩) (v := .int .i64 kind) (by first | assumption | (simp [go_sem]; done) | (simp [go_sem, *]; done)) hb2; have kc_7 := keepC (p := ⟨w.heap.size, 7, none⟩) (v := .complex .f32 0 0) (by first | assumption | (simp [go_sem]; done) | (simp [go_sem, *]; done)) hb2; have kc_8 := keepC (p := ⟨w.heap.size, 8, none⟩) (v := .float .f32 0) (by first | assumption | (simp [go_sem]; done) | (simp [go_sem, *]; done)) hb2; have kc_9 := keepC (p := ⟨w.heap.size, 9, none⟩) (v := .slice none 0 0) (by first | assumption | (simp [go_sem]; done) | (simp [go_sem, *]; done)) hb2; have kc_10 := keepC (p := ⟨w.heap.size, 10, none⟩) (v := .int .i64 0) (by first | assumption | (simp [go_sem]; done) | (simp [go_sem, *]; done)) hb2; have kc_11 := keepC (p := ⟨w.heap.size, 11, none⟩) (v := .slice none 0 0) (by first | assumption | (simp [go_sem]; done) | (simp [go_sem, *]; done)) hb2; have lb_ := (show w.heap.size < _ from World.block_lt_of_cell? _ _ kc_0))
      | (go_at_call 34; (with_reducible refine (containsEvent_nil _ _).mono ?_); rintro e w' ⟨rfl, rfl⟩))
          go_ret
          exact ⟨by rw [R.out]; rfl, by (repeat (first | with_reducible assumption | exact Below.refl _ _ | (refine Below.setCell ?_ (by first | exact Nat.le_refl _ | (simp; done) | omega | (simp; omega)) _) | (refine below_drewN ?_ _) | (refine Below.drew ?_) | (refine Below.alloc ?_ (by first | exact Nat.le_refl _ | (simp; done) | omega | (simp; omega)) _) | (refine then_ ?_ (by with_reducible assumption)) | assumption | (refine then_ ?_ (by assumption))))⟩

/-! ### the specification's -/
theorem step_parts {x : Nat} : stpB x = (finB x && (!leB x 0 && !gtB x 1132462080)) := by
  rcases three x with h1 | h1 | h1
  · have f1 : finB 0 = true := by decide
    have f2 : finB 1132462080 = true := by decide
    unfold stpB
    rw [h1, gtB_fin h1 f1, leB_fin h1 f2, leB_fin h1 f1, gtB_fin h1 f2]
    rw [Bool.true_and, Bool.eq_iff_iff]
    simp only [Bool.and_eq_true, decide_eq_true_eq, Bool.not_eq_true', decide_eq_false_iff_not]
    omega
  · have e := read_inf h1
    have r1 : Ieee.single.read 1132462080 = .number false 8388608 (-15) := by decide
    have hf : finB x = false := by
      unfold finB; simp; omega
    rw [hf]
    simp only [stpB, gtB, leB, ordB, Ieee.Format.order, e, r1, read_zero, Ieee.Datum.order]
    cases (x / 2147483648 % 2 == 1) <;> decide
  · have hf : finB x = false := by
      unfold nanB at h1
      unfold finB
      simp at h1 ⊢; omega
    unfold stpB gtB
    rw [hf, ord_nan_left h1]
    rfl
theorem specAreShards_nil (w : World) :
    Calls Try.prog 26 #[.slice none 0 0] w fun e w' => e = .returned (.bool true) ∧ w = w' := by
  go_enter Try.func26, Try.ntmps26
  go_wp2
  go_loopw [7] (fun i wr => i = .int .i64 0 ∧ w = wr) (fun _ _ => 0)
  case atStart => exact ⟨rfl, rfl⟩
  case round =>
    obtain ⟨rfl, rfl⟩ := hrel
    go_wp2
    go_ret
    exact ⟨rfl, rfl⟩
end Go.Proofs.Ytkhlaifjfdecoaa
