
/- FnExactNewShow: NewShow is the reference's for all arguments. -/
import Derived.Test.YtkhlaifjfdecoaaNewS3
import Derived.Test.YtkhlaifjfdecoaaOpen
import Derived.ProofKit
import Derived.ChangeOld
import Derived.Deep.RegionHeld3
import Derived.Below
import Derived.Laws.Cover3
namespace Go.Proofs.Ytkhlaifjfdecoaa
open Go.ChangeShapes Go.WideShapes Go.ChangeAt Go.RowKit Go.Joins
attribute [local go_sem] run_store_float run_store_complex

def newL (k s : Int) (t r1 g1 b1 : Nat) : List Value := [.int .i64 s, .float .f32 t, .float .f32 r1, .float .f32 g1, .float .f32 b1, .slice none 0 0, .int .i64 k, .complex .f32 0 0, .float .f32 0, .slice none 0 0, .int .i64 0, .slice none 0 0]
def BoxN (w : World) (b : Nat) (k s : Int) (t r1 g1 b1 : Nat) : Prop := ∀ (i : Nat) v, (newL k s t r1 g1 b1)[i]? = some v → w.cell? ⟨b, i, none⟩ = some v
theorem BoxN.keep {w w' : World} {b : Nat} {k s : Int} {t r1 g1 b1 : Nat} (h : BoxN w b k s t r1 g1 b1) (hb : Below w.heap.size w w') : BoxN w' b k s t r1 g1 b1 := fun i v hv => keepC (h i v hv) hb
theorem BoxN.lt {w : World} {b : Nat} {k s : Int} {t r1 g1 b1 : Nat} (h : BoxN w b k s t r1 g1 b1) : b < w.heap.size := World.block_lt_of_cell? _ _ (h 0 _ rfl)
theorem boxN_new (w : World) (k s : Int) (t r1 g1 b1 : Nat) : BoxN (w.alloc (Obj.cells #[.int .i64 s, .float .f32 t, .float .f32 r1, .float .f32 g1, .float .f32 b1, .slice none 0 0, .int .i64 k, .complex .f32 0 0, .float .f32 0, .slice none 0 0, .int .i64 0, .slice none 0 0] 33)) w.heap.size k s t r1 g1 b1 := by
  intro i v h
  have hi : i < 12 := (List.getElem?_eq_some_iff.1 h).1
  have hc : i = 0 ∨ i = 1 ∨ i = 2 ∨ i = 3 ∨ i = 4 ∨ i = 5 ∨ i = 6 ∨ i = 7 ∨ i = 8 ∨ i = 9 ∨ i = 10 ∨ i = 11 := by omega
  rcases hc with rfl | rfl | rfl | rfl | rfl | rfl | rfl | rfl | rfl | rfl | rfl | rfl <;> (injection h with h; subst h; simp [go_sem])

set_option maxRecDepth 100000 in
set_option maxHeartbeats 8000000 in
theorem lawNewShow (kind size : Int) (step r g b : Nat) (w : World) :
    Calls Try.prog 3 #[.int .i64 kind, .int .i64 size, .float .f32 step, .agg #[.float .f32 r, .float .f32 g, .float .f32 b]] w fun e w' => e = .returned (.bool true) ∧ Below w.heap.size w w' := by
  obtain ⟨k, s, t, r1, g1, b1, hv⟩ := made_new kind size step r g b
  have KS := Lib.hid (fun w => specNewShow_any kind size step r g b w)
  have KI := Lib.hid (fun w => newShow_any kind size step r g b w)
  rw [hv] at KS KI
  have KC := Lib.hid (fun w => toColour_any r g b w)
  have KE := Lib.hid (fun w => eqShow_new k s t r1 g1 b1 w)
  have KM := Lib.hid (fun w => markShow_new k s t r1 g1 b1 1 w)
  have KH := Lib.hid (fun w => heldShow_new k s t r1 g1 b1 1 w)
  obtain ⟨ok, hok⟩ : ∃ ok, ok = newOk kind size step r g b := ⟨_, rfl⟩
  rw [← hok] at KS KI
  have hne : (ok != ok) = false := by cases ok <;> rfl
  simp only [show ((1 : Nat) : Int) = 1 from rfl] at KH
  unfold newV at KS KI KE KM KH
  clear hv hok
  go_enter Try.func3, Try.ntmps3
  go_wp2_with fail
  obtain ⟨W, hWe⟩ : ∃ W, W = w.alloc (Obj.cells #[.float .f32 r, .float .f32 g, .float .f32 b] 24) := ⟨_, rfl⟩
  have B0 : Below w.heap.size w W := by rw [hWe]; (repeat (first | with_reducible assumption | exact Below.refl _ _ | (refine Below.setCell ?_ (by first | exact Nat.le_refl _ | (simp; done) | omega | (simp; omega)) _) | (refine below_drewN ?_ _) | (refine Below.drew ?_) | (refine Below.alloc ?_ (by first | exact Nat.le_refl _ | (simp; done) | omega | (simp; omega)) _) | (refine then_ ?_ (by with_reducible assumption)) | assumption | (refine then_ ?_ (by assumption))))
  have q0 : W.cell? ⟨w.heap.size, 0, none⟩ = some (.float .f32 r) := by rw [hWe]; simp [go_sem]
  have q1 : W.cell? ⟨w.heap.size, 1, none⟩ = some (.float .f32 g) := by rw [hWe]; simp [go_sem]
  have q2 : W.cell? ⟨w.heap.size, 2, none⟩ = some (.float .f32 b) := by rw [hWe]; simp [go_sem]
  rw [← hWe]
  clear hWe
  (with_reducible refine (KC.out _).mono ?_)
  rintro e w1 ⟨rfl, hb⟩
  have q0 := keepC q0 hb
  have q1 := keepC q1 hb
  have q2 := keepC q2 hb
  have B1 := then_ B0 hb
  clear hb B0
  have lq := (show w.heap.size < w1.heap.size from World.block_lt_of_cell? _ _ q0)
  go_wp2_with fail
  (with_reducible refine (KS.out _).mono ?_)
  rintro e w2 ⟨rfl, hb⟩
  have q0 := keepC q0 hb
  have q1 := keepC q1 hb
  have q2 := keepC q2 hb
  have B2 := then_ B1 hb
  clear hb B1
  have lq := (show w.heap.size < w2.heap.size from World.block_lt_of_cell? _ _ q0)
  go_upto_region 2 with fail
  obtain ⟨w3, hV⟩ : ∃ V, V = w2.alloc (Obj.cells #[.int .i64 s, .float .f32 t, .float .f32 r1, .float .f32 g1, .float .f32 b1, .slice none 0 0, .int .i64 k, .complex .f32 0 0, .float .f32 0, .slice none 0 0, .int .i64 0, .slice none 0 0] 33) := ⟨_, rfl⟩
  have hb : Below w2.heap.size w2 w3 := by rw [hV]; (repeat (first | with_reducible assumption | exact Below.refl _ _ | (refine Below.setCell ?_ (by first | exact Nat.le_refl _ | (simp; done) | omega | (simp; omega)) _) | (refine below_drewN ?_ _) | (refine Below.drew ?_) | (refine Below.alloc ?_ (by first | exact Nat.le_refl _ | (simp; done) | omega | (simp; omega)) _) | (refine then_ ?_ (by with_reducible assumption)) | assumption | (refine then_ ?_ (by assumption))))
  have X9n : BoxN w3 w2.heap.size k s t r1 g1 b1 := by rw [hV]; exact boxN_new _ _ _ _ _ _ _
  rw [← hV]
  clear hV
  have q0 := keepC q0 hb
  have q1 := keepC q1 hb
  have q2 := keepC q2 hb
  have X9 := X9n
  have B3 := then_ B2 hb
  clear hb B2 X9n
  have lq := (show w.heap.size < w3.heap.size from World.block_lt_of_cell? _ _ q0)
  have lX9 := X9.lt
  go_wp2_with fail
  (with_reducible refine (KC.out _).mono ?_)
  rintro e w4 ⟨rfl, hb⟩
  have q0 := keepC q0 hb
  have q1 := keepC q1 hb
  have q2 := keepC q2 hb
  have X9 := X9.keep hb
  have B4 := then_ B3 hb
  clear hb B3
  have lq := (show w.heap.size < w4.heap.size from World.block_lt_of_cell? _ _ q0)
  have lX9 := X9.lt
  go_wp2_with fail
  (with_reducible refine (KI.out _).mono ?_)
  rintro e w5 ⟨rfl, hb⟩
  have q0 := keepC q0 hb
  have q1 := keepC q1 hb
  have q2 := keepC q2 hb
  have X9 := X9.keep hb
  have B5 := then_ B4 hb
  clear hb B4
  have lq := (show w.heap.size < w5.heap.size from World.block_lt_of_cell? _ _ q0)
  have lX9 := X9.lt
  go_upto_region 3 with fail
  obtain ⟨w6, hV⟩ : ∃ V, V = w5.alloc (Obj.cells #[.int .i64 s, .float .f32 t, .float .f32 r1, .float .f32 g1, .float .f32 b1, .slice none 0 0, .int .i64 k, .complex .f32 0 0, .float .f32 0, .slice none 0 0, .int .i64 0, .slice none 0 0] 33) := ⟨_, rfl⟩
  have hb : Below w5.heap.size w5 w6 := by rw [hV]; (repeat (first | with_reducible assumption | exact Below.refl _ _ | (refine Below.setCell ?_ (by first | exact Nat.le_refl _ | (simp; done) | omega | (simp; omega)) _) | (refine below_drewN ?_ _) | (refine Below.drew ?_) | (refine Below.alloc ?_ (by first | exact Nat.le_refl _ | (simp; done) | omega | (simp; omega)) _) | (refine then_ ?_ (by with_reducible assumption)) | assumption | (refine then_ ?_ (by assumption))))
  have X11n : BoxN w6 w5.heap.size k s t r1 g1 b1 := by rw [hV]; exact boxN_new _ _ _ _ _ _ _
  rw [← hV]
  clear hV
  have q0 := keepC q0 hb
  have q1 := keepC q1 hb
  have q2 := keepC q2 hb
  have X9 := X9.keep hb
  have X11 := X11n
  have B6 := then_ B5 hb
  clear hb B5 X11n
  have lq := (show w.heap.size < w6.heap.size from World.block_lt_of_cell? _ _ q0)
  have lX9 := X9.lt
  have lX11 := X11.lt
  have x0 := X9 0 _ rfl
  have x1 := X9 1 _ rfl
  have x2 := X9 2 _ rfl
  have x3 := X9 3 _ rfl
  have x4 := X9 4 _ rfl
  have x5 := X9 5 _ rfl
  have x6 := X9 6 _ rfl
  have x7 := X9 7 _ rfl
  have x8 := X9 8 _ rfl
  have x9 := X9 9 _ rfl
  have x10 := X9 10 _ rfl
  have x11 := X9 11 _ rfl
  have y0 := X11 0 _ rfl
  have y1 := X11 1 _ rfl
  have y2 := X11 2 _ rfl
  have y3 := X11 3 _ rfl
  have y4 := X11 4 _ rfl
  have y5 := X11 5 _ rfl
  have y6 := X11 6 _ rfl
  have y7 := X11 7 _ rfl
  have y8 := X11 8 _ rfl
  have y9 := X11 9 _ rfl
  have y10 := X11 10 _ rfl
  have y11 := X11 11 _ rfl
  go_wp2_with fail
  clear x0 x1 x2 x3 x4 x5 x6 x7 x8 x9 x10 x11
  clear y0 y1 y2 y3 y4 y5 y6 y7 y8 y9 y10 y11
  (with_reducible refine (KE.out _).mono ?_)
  rintro e w7 ⟨rfl, hb⟩
  have q0 := keepC q0 hb
  have q1 := keepC q1 hb
  have q2 := keepC q2 hb
  have X9 := X9.keep hb
  have X11 := X11.keep hb
  have B7 := then_ B6 hb
  clear hb B6
  have lq := (show w.heap.size < w7.heap.size from World.block_lt_of_cell? _ _ q0)
  have lX9 := X9.lt
  have lX11 := X11.lt
  have y0 := X11 0 _ rfl
  have y1 := X11 1 _ rfl
  have y2 := X11 2 _ rfl
  have y3 := X11 3 _ rfl
  have y4 := X11 4 _ rfl
  have y5 := X11 5 _ rfl
  have y6 := X11 6 _ rfl
  have y7 := X11 7 _ rfl
  have y8 := X11 8 _ rfl
  have y9 := X11 9 _ rfl
  have y10 := X11 10 _ rfl
  have y11 := X11 11 _ rfl
  go_wp2_with fail
  clear y0 y1 y2 y3 y4 y5 y6 y7 y8 y9 y10 y11
  (with_reducible refine (KM.out _).mono ?_)
  rintro e w8 ⟨rfl, hb⟩
  have q0 := keepC q0 hb
  have q1 := keepC q1 hb
  have q2 := keepC q2 hb
  have X9 := X9.keep hb
  have X11 := X11.keep hb
  have B8 := then_ B7 hb
  clear hb B7
  have lq := (show w.heap.size < w8.heap.size from World.block_lt_of_cell? _ _ q0)
  have lX9 := X9.lt
  have lX11 := X11.lt
  have y0 := X11 0 _ rfl
  have y1 := X11 1 _ rfl
  have y2 := X11 2 _ rfl
  have y3 := X11 3 _ rfl
  have y4 := X11 4 _ rfl
  have y5 := X11 5 _ rfl
  have y6 := X11 6 _ rfl
  have y7 := X11 7 _ rfl
  have y8 := X11 8 _ rfl
  have y9 := X11 9 _ rfl
  have y10 := X11 10 _ rfl
  have y11 := X11 11 _ rfl
  go_wp2_with fail
  clear y0 y1 y2 y3 y4 y5 y6 y7 y8 y9 y10 y11
  (with_reducible refine (KH.out _).mono ?_)
  rintro e w9 ⟨rfl, hb⟩
  have q0 := keepC q0 hb
  have q1 := keepC q1 hb
  have q2 := keepC q2 hb
  have X9 := X9.keep hb
  have X11 := X11.keep hb
  have B9 := then_ B8 hb
  clear hb B8
  have lq := (show w.heap.size < w9.heap.size from World.block_lt_of_cell? _ _ q0)
  have lX9 := X9.lt
  have lX11 := X11.lt
  go_wp2_with fail
  (with_reducible refine (KC.out _).mono ?_)
  rintro e w10 ⟨rfl, hb⟩
  have q0 := keepC q0 hb
  have q1 := keepC q1 hb
  have q2 := keepC q2 hb
  have X9 := X9.keep hb
  have X11 := X11.keep hb
  have B10 := then_ B9 hb
  clear hb B9
  have lq := (show w.heap.size < w10.heap.size from World.block_lt_of_cell? _ _ q0)
  have lX9 := X9.lt
  have lX11 := X11.lt
  go_wp2_with fail
  (with_reducible refine (KI.out _).mono ?_)
  rintro e w11 ⟨rfl, hb⟩
  have q0 := keepC q0 hb
  have q1 := keepC q1 hb
  have q2 := keepC q2 hb
  have X9 := X9.keep hb
  have X11 := X11.keep hb
  have B11 := then_ B10 hb
  clear hb B10
  have lq := (show w.heap.size < w11.heap.size from World.block_lt_of_cell? _ _ q0)
  have lX9 := X9.lt
  have lX11 := X11.lt
  go_upto_region 14 with fail
  obtain ⟨w12, hV⟩ : ∃ V, V = w11.alloc (Obj.cells #[.int .i64 s, .float .f32 t, .float .f32 r1, .float .f32 g1, .float .f32 b1, .slice none 0 0, .int .i64 k, .complex .f32 0 0, .float .f32 0, .slice none 0 0, .int .i64 0, .slice none 0 0] 33) := ⟨_, rfl⟩
  have hb : Below w11.heap.size w11 w12 := by rw [hV]; (repeat (first | with_reducible assumption | exact Below.refl _ _ | (refine Below.setCell ?_ (by first | exact Nat.le_refl _ | (simp; done) | omega | (simp; omega)) _) | (refine below_drewN ?_ _) | (refine Below.drew ?_) | (refine Below.alloc ?_ (by first | exact Nat.le_refl _ | (simp; done) | omega | (simp; omega)) _) | (refine then_ ?_ (by with_reducible assumption)) | assumption | (refine then_ ?_ (by assumption))))
  have X15n : BoxN w12 w11.heap.size k s t r1 g1 b1 := by rw [hV]; exact boxN_new _ _ _ _ _ _ _
  rw [← hV]
  clear hV
  have q0 := keepC q0 hb
  have q1 := keepC q1 hb
  have q2 := keepC q2 hb
  have X9 := X9.keep hb
  have X11 := X11.keep hb
  have X15 := X15n
  have B12 := then_ B11 hb
  clear hb B11 X15n
  have lq := (show w.heap.size < w12.heap.size from World.block_lt_of_cell? _ _ q0)
  have lX9 := X9.lt
  have lX11 := X11.lt
  have lX15 := X15.lt
  have x0 := X9 0 _ rfl
  have x1 := X9 1 _ rfl
  have x2 := X9 2 _ rfl
  have x3 := X9 3 _ rfl
  have x4 := X9 4 _ rfl
  have x5 := X9 5 _ rfl
  have x6 := X9 6 _ rfl
  have x7 := X9 7 _ rfl
  have x8 := X9 8 _ rfl
  have x9 := X9 9 _ rfl
  have x10 := X9 10 _ rfl
  have x11 := X9 11 _ rfl
  have y0 := X15 0 _ rfl
  have y1 := X15 1 _ rfl
  have y2 := X15 2 _ rfl
  have y3 := X15 3 _ rfl
  have y4 := X15 4 _ rfl
  have y5 := X15 5 _ rfl
  have y6 := X15 6 _ rfl
  have y7 := X15 7 _ rfl
  have y8 := X15 8 _ rfl
  have y9 := X15 9 _ rfl
  have y10 := X15 10 _ rfl
  have y11 := X15 11 _ rfl
  go_wp2_with fail
  clear x0 x1 x2 x3 x4 x5 x6 x7 x8 x9 x10 x11
  clear y0 y1 y2 y3 y4 y5 y6 y7 y8 y9 y10 y11
  (with_reducible refine (KE.out _).mono ?_)
  rintro e w13 ⟨rfl, hb⟩
  have q0 := keepC q0 hb
  have q1 := keepC q1 hb
  have q2 := keepC q2 hb
  have X9 := X9.keep hb
  have X11 := X11.keep hb
  have X15 := X15.keep hb
  have B13 := then_ B12 hb
  clear hb B12
  have lq := (show w.heap.size < w13.heap.size from World.block_lt_of_cell? _ _ q0)
  have lX9 := X9.lt
  have lX11 := X11.lt
  have lX15 := X15.lt
  have y0 := X11 0 _ rfl
  have y1 := X11 1 _ rfl
  have y2 := X11 2 _ rfl
  have y3 := X11 3 _ rfl
  have y4 := X11 4 _ rfl
  have y5 := X11 5 _ rfl
  have y6 := X11 6 _ rfl
  have y7 := X11 7 _ rfl
  have y8 := X11 8 _ rfl
  have y9 := X11 9 _ rfl
  have y10 := X11 10 _ rfl
  have y11 := X11 11 _ rfl
  go_wp2_with fail
  clear y0 y1 y2 y3 y4 y5 y6 y7 y8 y9 y10 y11
  (with_reducible refine (KH.out _).mono ?_)
  rintro e w14 ⟨rfl, hb⟩
  have q0 := keepC q0 hb
  have q1 := keepC q1 hb
  have q2 := keepC q2 hb
  have X9 := X9.keep hb
  have X11 := X11.keep hb
  have X15 := X15.keep hb
  have B14 := then_ B13 hb
  clear hb B13
  go_wp2
  go_ret
  exact ⟨rfl, B14⟩

theorem cells_col : Try.prog.cellsOf 24 = 3 := by kernel_rfl
namespace fnExactNewShow
theorem own : ownKnob Try.prog.godebug = none := by kernel_rfl
theorem laidOut : laidOutB Try.prog = true := by kernel_rfl
set_option maxRecDepth 100000 in
theorem lifted (os : Os) (started : os.Started) (H : Type) (enc : TypeId × Value → H) :
    ReturnsInHanded {} Try.checked os 3 .any (Rows.fnExactNewShowSpec.pre6 enc Try.prog Try.f3 Rows.fnExactNewShowRow.domain false) (Rows.fnExactNewShowSpec.post enc Try.prog Try.f3 false true false false) := by
  refine returnsInHanded_of_change (C := Try.checked) own started (by kernel_rfl) Try.func3
    (ChangeSpec.witness6 (enc := enc) (C := Try.checked) false ⟨#[], #[.int .i64 0, .int .i64 0, .float .f32 0, .agg #[.float .f32 0, .float .f32 0, .float .f32 0]], []⟩ 8 (by kernel_rfl) (by kernel_rfl) (by kernel_rfl) (by kernel_rfl)) ?_
  intro W base args ds gs before hval0 hW hcnd _
  have hval : ∀ (j : Nat) t v, Try.f3.params[j]? = some t → args[j]? = some v → Value.okWide Try.prog W .any base t v := hval0
  have hW' := hW
  obtain ⟨p, q, hA0, hV, rfl, hfz, hnd⟩ := hW
  have hA : DataW.TrodAll enc Try.prog W 0 (fun _ => true) true Try.f3.params.toList args.toList ds p := hA0
  rw [Try.params3] at hA hval
  obtain ⟨v0, vs0, d0, ds0, p0, q0, hargs, rfl, rfl, h0, r0⟩ := trodAll_cons hA
  obtain ⟨v1, vs1, d1, ds1, p1, q1, rfl, rfl, rfl, h1, r1⟩ := trodAll_cons r0
  obtain ⟨v2, vs2, d2, ds2, p2, q2, rfl, rfl, rfl, h2, r2⟩ := trodAll_cons r1
  obtain ⟨v3, vs3, d3, ds3, p3, q3, rfl, rfl, rfl, h3, r3⟩ := trodAll_cons r2
  obtain ⟨rfl, rfl, rfl⟩ := trodAll_nil r3
  obtain rfl : args = #[v0, v1, v2, v3] := by cases args; simp_all
  obtain ⟨rfl, rfl⟩ := trodVars_none hV
  have k0 := h0
  have lt0 : ∀ x ∈ p0, x.block < W.heap.size := by obtain ⟨m, hm⟩ := k0; exact DataW.trod_lt m _ _ _ hm
  have k1 := h1
  have lt1 : ∀ x ∈ p1, x.block < W.heap.size := by obtain ⟨m, hm⟩ := k1; exact DataW.trod_lt m _ _ _ hm
  have k2 := h2
  have lt2 : ∀ x ∈ p2, x.block < W.heap.size := by obtain ⟨m, hm⟩ := k2; exact DataW.trod_lt m _ _ _ hm
  have k3 := h3
  have lt3 : ∀ x ∈ p3, x.block < W.heap.size := by obtain ⟨m, hm⟩ := k3; exact DataW.trod_lt m _ _ _ hm
  obtain ⟨a0, rfl, rfl, rfl, wa0⟩ := open_int Try.underlying3 (hval 0 3 v0 rfl rfl) h0
  obtain ⟨a1, rfl, rfl, rfl, wa1⟩ := open_int Try.underlying3 (hval 1 3 v1 rfl rfl) h1
  obtain ⟨a2, rfl, rfl, rfl, wa2⟩ := open_float Try.underlying22 (hval 2 22 v2 rfl rfl) h2
  obtain ⟨c0, c1, c2, y0, y1, y2, m, rfl, rfl, rfl, hy0, hy1, hy2⟩ := open_agg3 Try.underlying24 (by kernel_rfl) cells_col (hval 3 24 v3 rfl rfl) h3
  obtain ⟨cr, rfl⟩ := trod_float Try.underlying22 hy0
  obtain ⟨cg, rfl⟩ := trod_float Try.underlying22 hy1
  obtain ⟨cb, rfl⟩ := trod_float Try.underlying22 hy2
  clear hA0 hval0
  refine (lawNewShow a0 a1 a2 cr cg cb W).mono fun e W' ⟨he, bel⟩ => ?_
  subst he
  exact ⟨_, rfl, _, _, _, [], _, [], hW', trodAll_mk1 (shut_bool Try.underlying4 _), (trodAll_cons_mk (Below.trod laidOut (by kernel_rfl) (of_decide_eq_true (by kernel_rfl)) k0 bel lt0) (trodAll_cons_mk (Below.trod laidOut (by kernel_rfl) (of_decide_eq_true (by kernel_rfl)) k1 bel lt1) (trodAll_cons_mk (Below.trod laidOut (by kernel_rfl) (of_decide_eq_true (by kernel_rfl)) k2 bel lt2) (trodAll_cons_mk (Below.trod laidOut (by kernel_rfl) (of_decide_eq_true (by kernel_rfl)) k3 bel lt3) trodAll_mk0)))), rfl, bel.frame _, fun h => by cases h⟩

theorem and_mk {a b : Bool} (h : a = true) (k : b = true) : (a && b) = true := by rw [h, k]; rfl
set_option maxHeartbeats 40000000 in
theorem facts : joinedFacts Try.pinned.checked.prog 3 Try.f3 Rows.fnExactNewShowSpec Rows.fnExactNewShowRow = true := by
  unfold joinedFacts
  repeat (with_reducible refine and_mk ?_ ?_)
  all_goals (as_aux_lemma => kernel_rfl)
theorem named_ : Try.pinned.checked.prog.funcNamed Rows.fnExactNewShowRow.func = some 3 := by kernel_rfl
theorem over : Rows.fnExactNewShowRow.holds Try.pinned (OpenSpec.ofChange Rows.fnExactNewShowSpec) :=
  OpenClaim.holds_of_wide 3 Try.f3 rfl rfl rfl rfl rfl rfl rfl ⟨rfl, rfl, rfl, rfl, rfl⟩ rfl rfl rfl rfl rfl named_ Try.func3 facts
    (of_decide_eq_true (by kernel_rfl)) (by unfold Func.isWrapper; first | (rw [if_pos (by decide +kernel)]; kernel_rfl) | (rw [if_neg (by decide +kernel)]; exact ⟨rfl, rfl⟩))
    (fun os started H enc _ => lifted os started H enc)

theorem proved : Rows.FnExactNewShowSaid := over
end fnExactNewShow
end Go.Proofs.Ytkhlaifjfdecoaa
