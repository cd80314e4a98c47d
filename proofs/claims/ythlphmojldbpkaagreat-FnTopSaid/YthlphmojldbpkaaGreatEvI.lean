
/- IsEvent: the program's; the search for an event that is none. -/
import Derived.Test.YthlphmojldbpkaaGreatM15
import Derived.Test.YthlphmojldbpkaaGreatM16
import Derived.Test.YthlphmojldbpkaaGreatM3
import Derived.BigQuiet
import Derived.Deep.RegionHeld3
namespace Go.Proofs.YthlphmojldbpkaaGreat
open Go.RowKit
attribute [local go_sem] run_store_float run_store_complex

set_option maxRecDepth 100000 in
set_option maxHeartbeats 8000000 in
theorem isEvent_any (e : Ev) (w : World) (hg : evG e = true) :
    Calls Tryz.prog 31 #[.agg #[.int .i64 e.k, .int .i64 e.n, .complex .f32 e.z.1 e.z.2, .complex .f32 e.s.1.1 e.s.1.2, .complex .f32 e.s.2.1.1 e.s.2.1.2, .complex .f32 e.s.2.2.1.1 e.s.2.2.1.2, .float .f32 e.s.2.2.2.1.1, .float .f32 e.s.2.2.2.1.2.1, .float .f32 e.s.2.2.2.1.2.2, .float .f32 e.s.2.2.2.2, .float .f32 e.c.1, .float .f32 e.c.2.1, .float .f32 e.c.2.2]] w fun x w' => x = .returned (.bool (evR e)) ∧ Below w.heap.size w w' := by
  have k0 := fun wx => run_eql_ev 0 0 (0, 0) sh0 (0, 0, 0) wx fin_0 ok_sh0 ok_col0
  simp only [evX, sh0] at k0
  cases e with
  | add s z =>
    simp only [Ev.k, Ev.n, Ev.z, Ev.s, Ev.c, evR]
    simp only [evG, Bool.and_eq_true] at hg
    obtain ⟨h1, h2, h3⟩ := hg
    obtain ⟨_, z2⟩ := okW_32 h2 h3
    obtain ⟨a, c, d, ⟨r, g, l⟩, q⟩ := s
    clear h2 h3
    go_enter Tryz.func31, Tryz.ntmps31
    go_wp2_with fail
    obtain ⟨V, hVe⟩ : ∃ V, V = w.alloc (Obj.cells #[.int .i64 1, .int .i64 0, .complex .f32 z.1 z.2, .complex .f32 a.1 a.2, .complex .f32 c.1 c.2, .complex .f32 d.1 d.2, .float .f32 r, .float .f32 g, .float .f32 l, .float .f32 q, .float .f32 0, .float .f32 0, .float .f32 0] 38) := ⟨_, rfl⟩
    obtain ⟨W, hWe⟩ : ∃ W, W = V.alloc (Obj.cells #[.int .i64 0, .int .i64 0, .complex .f32 z.1 z.2, .complex .f32 a.1 a.2, .complex .f32 c.1 c.2, .complex .f32 d.1 d.2, .float .f32 r, .float .f32 g, .float .f32 l, .float .f32 q, .float .f32 0, .float .f32 0, .float .f32 0] 38) := ⟨_, rfl⟩
    have zV : V.heap.size = w.heap.size + 1 := by rw [hVe]; simp
    have hW : Below w.heap.size w W := by rw [hWe, hVe]; (repeat (first | with_reducible assumption | exact Below.refl _ _ | (refine Below.setCell ?_ (by first | exact Nat.le_refl _ | (simp; done) | omega | (simp; omega)) _) | (refine below_drewN ?_ _) | (refine Below.drew ?_) | (refine Below.alloc ?_ (by first | exact Nat.le_refl _ | (simp; done) | omega | (simp; omega)) _) | (refine then_ ?_ (by with_reducible assumption)) | assumption | (refine then_ ?_ (by assumption))))
    have ca : CA V w.heap.size [.int .i64 1, .int .i64 0, .complex .f32 z.1 z.2, .complex .f32 a.1 a.2, .complex .f32 c.1 c.2, .complex .f32 d.1 d.2, .float .f32 r, .float .f32 g, .float .f32 l, .float .f32 q, .float .f32 0, .float .f32 0, .float .f32 0] := by rw [hVe]; exact CA.new _ _ _
    have cb : CA W (w.heap.size + 1) [.int .i64 0, .int .i64 0, .complex .f32 z.1 z.2, .complex .f32 a.1 a.2, .complex .f32 c.1 c.2, .complex .f32 d.1 d.2, .float .f32 r, .float .f32 g, .float .f32 l, .float .f32 q, .float .f32 0, .float .f32 0, .float .f32 0] := by rw [hWe, ← zV]; exact CA.new _ _ _
    have fb : FA W (w.heap.size + 1) := by rw [hWe, ← zV]; exact FA.new _ _ _
    have ca := ca.alloc (Obj.cells #[.int .i64 0, .int .i64 0, .complex .f32 z.1 z.2, .complex .f32 a.1 a.2, .complex .f32 c.1 c.2, .complex .f32 d.1 d.2, .float .f32 r, .float .f32 g, .float .f32 l, .float .f32 q, .float .f32 0, .float .f32 0, .float .f32 0] 38)
    rw [← hWe] at ca
    have la := ca.lt
    have lb := cb.lt
    rw [← hVe, ← hWe]
    clear hVe hWe zV
    have a0 := ca 0 _ rfl; have a2 := ca 2 _ rfl; have a3 := ca 3 _ rfl; have a4 := ca 4 _ rfl; have a5 := ca 5 _ rfl; have a6 := ca 6 _ rfl; have a7 := ca 7 _ rfl; have a8 := ca 8 _ rfl; have a9 := ca 9 _ rfl
    go_wp2_with fail
    (with_reducible refine (isShard_yes a c d r g l q _ h1).mono ?_)
    rintro e w1 ⟨rfl, hb1⟩
    replace ca := ca.keep hb1
    replace cb := cb.keep hb1
    replace fb := fb.keep hb1 lb
    replace hW := then_ hW hb1
    replace la := ca.lt
    replace lb := cb.lt
    clear hb1 a0 a2 a3 a4 a5 a6 a7 a8 a9
    have a0 := ca 0 _ rfl; have a2 := ca 2 _ rfl
    have b2 := cb 2 _ rfl; have b3 := cb 3 _ rfl; have b4 := cb 4 _ rfl; have b5 := cb 5 _ rfl; have b6 := cb 6 _ rfl; have b7 := cb 7 _ rfl; have b8 := cb 8 _ rfl; have b9 := cb 9 _ rfl
    have f2 := fb 2; have f3 := fb 3; have f4 := fb 4; have f5 := fb 5; have f6 := fb 6; have f7 := fb 7; have f8 := fb 8; have f9 := fb 9
    go_upto_region 33 with (go_at_call 42; (with_reducible refine (isPoint_any _ _ _).mono ?_); rintro e w' ⟨rfl, rfl⟩; simp only [z2])
    have cU := ((((((((cb.put 3 (.complex .f32 0 0)).put 4 (.complex .f32 0 0)).put 5 (.complex .f32 0 0)).put 6 (.float .f32 0)).put 7 (.float .f32 0)).put 8 (.float .f32 0)).put 9 (.float .f32 0)).put 2 (.complex .f32 0 0)); have hU := ((((((((hW.setCell (p := ⟨w.heap.size + 1, 3, none⟩) (Nat.le_succ _) (.complex .f32 0 0)).setCell (p := ⟨w.heap.size + 1, 4, none⟩) (Nat.le_succ _) (.complex .f32 0 0)).setCell (p := ⟨w.heap.size + 1, 5, none⟩) (Nat.le_succ _) (.complex .f32 0 0)).setCell (p := ⟨w.heap.size + 1, 6, none⟩) (Nat.le_succ _) (.float .f32 0)).setCell (p := ⟨w.heap.size + 1, 7, none⟩) (Nat.le_succ _) (.float .f32 0)).setCell (p := ⟨w.heap.size + 1, 8, none⟩) (Nat.le_succ _) (.float .f32 0)).setCell (p := ⟨w.heap.size + 1, 9, none⟩) (Nat.le_succ _) (.float .f32 0)).setCell (p := ⟨w.heap.size + 1, 2, none⟩) (Nat.le_succ _) (.complex .f32 0 0)); obtain ⟨U, hUe⟩ : ∃ U, U = ((((((((w1.setCell ⟨w.heap.size + 1, 3, none⟩ (.complex .f32 0 0)).setCell ⟨w.heap.size + 1, 4, none⟩ (.complex .f32 0 0)).setCell ⟨w.heap.size + 1, 5, none⟩ (.complex .f32 0 0)).setCell ⟨w.heap.size + 1, 6, none⟩ (.float .f32 0)).setCell ⟨w.heap.size + 1, 7, none⟩ (.float .f32 0)).setCell ⟨w.heap.size + 1, 8, none⟩ (.float .f32 0)).setCell ⟨w.heap.size + 1, 9, none⟩ (.float .f32 0)).setCell ⟨w.heap.size + 1, 2, none⟩ (.complex .f32 0 0)) := ⟨_, rfl⟩; rw [← hUe] at cU hU; rw [← hUe]
    replace lb := cU.lt
    clear hUe cb fb hW b2 f2 b3 f3 b4 f4 b5 f5 b6 f6 b7 f7 b8 f8 b9 f9
    have b0 := cU 0 _ rfl; have b1 := cU 1 _ rfl; have b2 := cU 2 _ rfl; have b3 := cU 3 _ rfl; have b4 := cU 4 _ rfl; have b5 := cU 5 _ rfl; have b6 := cU 6 _ rfl; have b7 := cU 7 _ rfl; have b8 := cU 8 _ rfl; have b9 := cU 9 _ rfl; have b10 := cU 10 _ rfl; have b11 := cU 11 _ rfl; have b12 := cU 12 _ rfl
    go_wp2
    go_ret
    exact ⟨rfl, by (repeat (first | with_reducible assumption | exact Below.refl _ _ | (refine Below.setCell ?_ (by first | exact Nat.le_refl _ | (simp; done) | omega | (simp; omega)) _) | (refine below_drewN ?_ _) | (refine Below.drew ?_) | (refine Below.alloc ?_ (by first | exact Nat.le_refl _ | (simp; done) | omega | (simp; omega)) _) | (refine then_ ?_ (by with_reducible assumption)) | assumption | (refine then_ ?_ (by assumption))))⟩
  | take n =>
    simp only [Ev.k, Ev.n, Ev.z, Ev.s, Ev.c, evR, sh0]
    cases h : inB n 0 7
    · skip
      go_enter Tryz.func31, Tryz.ntmps31
      go_wp2_with fail
      obtain ⟨V, hVe⟩ : ∃ V, V = w.alloc (Obj.cells #[.int .i64 2, .int .i64 n, .complex .f32 0 0, .complex .f32 0 0, .complex .f32 0 0, .complex .f32 0 0, .float .f32 0, .float .f32 0, .float .f32 0, .float .f32 0, .float .f32 0, .float .f32 0, .float .f32 0] 38) := ⟨_, rfl⟩
      obtain ⟨W, hWe⟩ : ∃ W, W = V.alloc (Obj.cells #[.int .i64 0, .int .i64 n, .complex .f32 0 0, .complex .f32 0 0, .complex .f32 0 0, .complex .f32 0 0, .float .f32 0, .float .f32 0, .float .f32 0, .float .f32 0, .float .f32 0, .float .f32 0, .float .f32 0] 38) := ⟨_, rfl⟩
      have zV : V.heap.size = w.heap.size + 1 := by rw [hVe]; simp
      have hW : Below w.heap.size w W := by rw [hWe, hVe]; (repeat (first | with_reducible assumption | exact Below.refl _ _ | (refine Below.setCell ?_ (by first | exact Nat.le_refl _ | (simp; done) | omega | (simp; omega)) _) | (refine below_drewN ?_ _) | (refine Below.drew ?_) | (refine Below.alloc ?_ (by first | exact Nat.le_refl _ | (simp; done) | omega | (simp; omega)) _) | (refine then_ ?_ (by with_reducible assumption)) | assumption | (refine then_ ?_ (by assumption))))
      have ca : CA V w.heap.size [.int .i64 2, .int .i64 n, .complex .f32 0 0, .complex .f32 0 0, .complex .f32 0 0, .complex .f32 0 0, .float .f32 0, .float .f32 0, .float .f32 0, .float .f32 0, .float .f32 0, .float .f32 0, .float .f32 0] := by rw [hVe]; exact CA.new _ _ _
      have cb : CA W (w.heap.size + 1) [.int .i64 0, .int .i64 n, .complex .f32 0 0, .complex .f32 0 0, .complex .f32 0 0, .complex .f32 0 0, .float .f32 0, .float .f32 0, .float .f32 0, .float .f32 0, .float .f32 0, .float .f32 0, .float .f32 0] := by rw [hWe, ← zV]; exact CA.new _ _ _
      have fb : FA W (w.heap.size + 1) := by rw [hWe, ← zV]; exact FA.new _ _ _
      have ca := ca.alloc (Obj.cells #[.int .i64 0, .int .i64 n, .complex .f32 0 0, .complex .f32 0 0, .complex .f32 0 0, .complex .f32 0 0, .float .f32 0, .float .f32 0, .float .f32 0, .float .f32 0, .float .f32 0, .float .f32 0, .float .f32 0] 38)
      rw [← hWe] at ca
      have la := ca.lt
      have lb := cb.lt
      rw [← hVe, ← hWe]
      clear hVe hWe zV
      have a0 := ca 0 _ rfl; have a1 := ca 1 _ rfl
      have b0 := cb 0 _ rfl; have b1 := cb 1 _ rfl; have b2 := cb 2 _ rfl; have b3 := cb 3 _ rfl; have b4 := cb 4 _ rfl; have b5 := cb 5 _ rfl; have b6 := cb 6 _ rfl; have b7 := cb 7 _ rfl; have b8 := cb 8 _ rfl; have b9 := cb 9 _ rfl; have b10 := cb 10 _ rfl; have b11 := cb 11 _ rfl; have b12 := cb 12 _ rfl
      have f1 := fb 1
      have lt0 := la
      go_wp2_with (first | (go_at_call 49; (with_reducible refine (within_any n 0 7 _).mono ?_); rintro e w' ⟨rfl, rfl⟩; simp only [h]))
      go_ret
      exact ⟨rfl, by (repeat (first | with_reducible assumption | exact Below.refl _ _ | (refine Below.setCell ?_ (by first | exact Nat.le_refl _ | (simp; done) | omega | (simp; omega)) _) | (refine below_drewN ?_ _) | (refine Below.drew ?_) | (refine Below.alloc ?_ (by first | exact Nat.le_refl _ | (simp; done) | omega | (simp; omega)) _) | (refine then_ ?_ (by with_reducible assumption)) | assumption | (refine then_ ?_ (by assumption))))⟩
    · skip
      go_enter Tryz.func31, Tryz.ntmps31
      go_wp2_with fail
      obtain ⟨V, hVe⟩ : ∃ V, V = w.alloc (Obj.cells #[.int .i64 2, .int .i64 n, .complex .f32 0 0, .complex .f32 0 0, .complex .f32 0 0, .complex .f32 0 0, .float .f32 0, .float .f32 0, .float .f32 0, .float .f32 0, .float .f32 0, .float .f32 0, .float .f32 0] 38) := ⟨_, rfl⟩
      obtain ⟨W, hWe⟩ : ∃ W, W = V.alloc (Obj.cells #[.int .i64 0, .int .i64 n, .complex .f32 0 0, .complex .f32 0 0, .complex .f32 0 0, .complex .f32 0 0, .float .f32 0, .float .f32 0, .float .f32 0, .float .f32 0, .float .f32 0, .float .f32 0, .float .f32 0] 38) := ⟨_, rfl⟩
      have zV : V.heap.size = w.heap.size + 1 := by rw [hVe]; simp
      have hW : Below w.heap.size w W := by rw [hWe, hVe]; (repeat (first | with_reducible assumption | exact Below.refl _ _ | (refine Below.setCell ?_ (by first | exact Nat.le_refl _ | (simp; done) | omega | (simp; omega)) _) | (refine below_drewN ?_ _) | (refine Below.drew ?_) | (refine Below.alloc ?_ (by first | exact Nat.le_refl _ | (simp; done) | omega | (simp; omega)) _) | (refine then_ ?_ (by with_reducible assumption)) | assumption | (refine then_ ?_ (by assumption))))
      have ca : CA V w.heap.size [.int .i64 2, .int .i64 n, .complex .f32 0 0, .complex .f32 0 0, .complex .f32 0 0, .complex .f32 0 0, .float .f32 0, .float .f32 0, .float .f32 0, .float .f32 0, .float .f32 0, .float .f32 0, .float .f32 0] := by rw [hVe]; exact CA.new _ _ _
      have cb : CA W (w.heap.size + 1) [.int .i64 0, .int .i64 n, .complex .f32 0 0, .complex .f32 0 0, .complex .f32 0 0, .complex .f32 0 0, .float .f32 0, .float .f32 0, .float .f32 0, .float .f32 0, .float .f32 0, .float .f32 0, .float .f32 0] := by rw [hWe, ← zV]; exact CA.new _ _ _
      have fb : FA W (w.heap.size + 1) := by rw [hWe, ← zV]; exact FA.new _ _ _
      have ca := ca.alloc (Obj.cells #[.int .i64 0, .int .i64 n, .complex .f32 0 0, .complex .f32 0 0, .complex .f32 0 0, .complex .f32 0 0, .float .f32 0, .float .f32 0, .float .f32 0, .float .f32 0, .float .f32 0, .float .f32 0, .float .f32 0] 38)
      rw [← hWe] at ca
      have la := ca.lt
      have lb := cb.lt
      rw [← hVe, ← hWe]
      clear hVe hWe zV
      have a0 := ca 0 _ rfl; have a1 := ca 1 _ rfl
      have b0 := cb 0 _ rfl; have b1 := cb 1 _ rfl; have b2 := cb 2 _ rfl; have b3 := cb 3 _ rfl; have b4 := cb 4 _ rfl; have b5 := cb 5 _ rfl; have b6 := cb 6 _ rfl; have b7 := cb 7 _ rfl; have b8 := cb 8 _ rfl; have b9 := cb 9 _ rfl; have b10 := cb 10 _ rfl; have b11 := cb 11 _ rfl; have b12 := cb 12 _ rfl
      have f1 := fb 1
      have lt0 := la
      go_wp2_with (first | (go_at_call 49; (with_reducible refine (within_any n 0 7 _).mono ?_); rintro e w' ⟨rfl, rfl⟩; simp only [h]))
      go_ret
      exact ⟨rfl, by (repeat (first | with_reducible assumption | exact Below.refl _ _ | (refine Below.setCell ?_ (by first | exact Nat.le_refl _ | (simp; done) | omega | (simp; omega)) _) | (refine below_drewN ?_ _) | (refine Below.drew ?_) | (refine Below.alloc ?_ (by first | exact Nat.le_refl _ | (simp; done) | omega | (simp; omega)) _) | (refine then_ ?_ (by with_reducible assumption)) | assumption | (refine then_ ?_ (by assumption))))⟩
  | light c =>
    simp only [Ev.k, Ev.n, Ev.z, Ev.s, Ev.c, evR, sh0]
    simp only [evG] at hg
    obtain ⟨r, g, l⟩ := c
    have h1 := hg
    go_enter Tryz.func31, Tryz.ntmps31
    go_wp2_with fail
    obtain ⟨V, hVe⟩ : ∃ V, V = w.alloc (Obj.cells #[.int .i64 3, .int .i64 0, .complex .f32 0 0, .complex .f32 0 0, .complex .f32 0 0, .complex .f32 0 0, .float .f32 0, .float .f32 0, .float .f32 0, .float .f32 0, .float .f32 r, .float .f32 g, .float .f32 l] 38) := ⟨_, rfl⟩
    obtain ⟨W, hWe⟩ : ∃ W, W = V.alloc (Obj.cells #[.int .i64 0, .int .i64 0, .complex .f32 0 0, .complex .f32 0 0, .complex .f32 0 0, .complex .f32 0 0, .float .f32 0, .float .f32 0, .float .f32 0, .float .f32 0, .float .f32 r, .float .f32 g, .float .f32 l] 38) := ⟨_, rfl⟩
    have zV : V.heap.size = w.heap.size + 1 := by rw [hVe]; simp
    have hW : Below w.heap.size w W := by rw [hWe, hVe]; (repeat (first | with_reducible assumption | exact Below.refl _ _ | (refine Below.setCell ?_ (by first | exact Nat.le_refl _ | (simp; done) | omega | (simp; omega)) _) | (refine below_drewN ?_ _) | (refine Below.drew ?_) | (refine Below.alloc ?_ (by first | exact Nat.le_refl _ | (simp; done) | omega | (simp; omega)) _) | (refine then_ ?_ (by with_reducible assumption)) | assumption | (refine then_ ?_ (by assumption))))
    have ca : CA V w.heap.size [.int .i64 3, .int .i64 0, .complex .f32 0 0, .complex .f32 0 0, .complex .f32 0 0, .complex .f32 0 0, .float .f32 0, .float .f32 0, .float .f32 0, .float .f32 0, .float .f32 r, .float .f32 g, .float .f32 l] := by rw [hVe]; exact CA.new _ _ _
    have cb : CA W (w.heap.size + 1) [.int .i64 0, .int .i64 0, .complex .f32 0 0, .complex .f32 0 0, .complex .f32 0 0, .complex .f32 0 0, .float .f32 0, .float .f32 0, .float .f32 0, .float .f32 0, .float .f32 r, .float .f32 g, .float .f32 l] := by rw [hWe, ← zV]; exact CA.new _ _ _
    have fb : FA W (w.heap.size + 1) := by rw [hWe, ← zV]; exact FA.new _ _ _
    have ca := ca.alloc (Obj.cells #[.int .i64 0, .int .i64 0, .complex .f32 0 0, .complex .f32 0 0, .complex .f32 0 0, .complex .f32 0 0, .float .f32 0, .float .f32 0, .float .f32 0, .float .f32 0, .float .f32 r, .float .f32 g, .float .f32 l] 38)
    rw [← hWe] at ca
    have la := ca.lt
    have lb := cb.lt
    rw [← hVe, ← hWe]
    clear hVe hWe zV
    have a0 := ca 0 _ rfl; have a10 := ca 10 _ rfl; have a11 := ca 11 _ rfl; have a12 := ca 12 _ rfl
    go_wp2_with fail
    (with_reducible refine (isColour_any r g l _).mono ?_)
    rw [h1]
    rintro e w1 ⟨rfl, hb1⟩
    replace ca := ca.keep hb1
    replace cb := cb.keep hb1
    replace fb := fb.keep hb1 lb
    replace hW := then_ hW hb1
    replace la := ca.lt
    replace lb := cb.lt
    clear hb1 a0 a10 a11 a12
    have a0 := ca 0 _ rfl; have a2 := ca 2 _ rfl
    have b10 := cb 10 _ rfl; have b11 := cb 11 _ rfl; have b12 := cb 12 _ rfl
    have f10 := fb 10; have f11 := fb 11; have f12 := fb 12
    go_upto_region 33 with fail
    have cU := (((cb.put 10 (.float .f32 0)).put 11 (.float .f32 0)).put 12 (.float .f32 0)); have hU := (((hW.setCell (p := ⟨w.heap.size + 1, 10, none⟩) (Nat.le_succ _) (.float .f32 0)).setCell (p := ⟨w.heap.size + 1, 11, none⟩) (Nat.le_succ _) (.float .f32 0)).setCell (p := ⟨w.heap.size + 1, 12, none⟩) (Nat.le_succ _) (.float .f32 0)); obtain ⟨U, hUe⟩ : ∃ U, U = (((w1.setCell ⟨w.heap.size + 1, 10, none⟩ (.float .f32 0)).setCell ⟨w.heap.size + 1, 11, none⟩ (.float .f32 0)).setCell ⟨w.heap.size + 1, 12, none⟩ (.float .f32 0)) := ⟨_, rfl⟩; rw [← hUe] at cU hU; rw [← hUe]
    replace lb := cU.lt
    clear hUe cb fb hW b10 f10 b11 f11 b12 f12
    have b0 := cU 0 _ rfl; have b1 := cU 1 _ rfl; have b2 := cU 2 _ rfl; have b3 := cU 3 _ rfl; have b4 := cU 4 _ rfl; have b5 := cU 5 _ rfl; have b6 := cU 6 _ rfl; have b7 := cU 7 _ rfl; have b8 := cU 8 _ rfl; have b9 := cU 9 _ rfl; have b10 := cU 10 _ rfl; have b11 := cU 11 _ rfl; have b12 := cU 12 _ rfl
    go_wp2
    go_ret
    exact ⟨rfl, by (repeat (first | with_reducible assumption | exact Below.refl _ _ | (refine Below.setCell ?_ (by first | exact Nat.le_refl _ | (simp; done) | omega | (simp; omega)) _) | (refine below_drewN ?_ _) | (refine Below.drew ?_) | (refine Below.alloc ?_ (by first | exact Nat.le_refl _ | (simp; done) | omega | (simp; omega)) _) | (refine then_ ?_ (by with_reducible assumption)) | assumption | (refine then_ ?_ (by assumption))))⟩
  | mirrors n =>
    simp only [Ev.k, Ev.n, Ev.z, Ev.s, Ev.c, evR, sh0]
    cases h : inB n 0 3
    · skip
      go_enter Tryz.func31, Tryz.ntmps31
      go_wp2_with fail
      obtain ⟨V, hVe⟩ : ∃ V, V = w.alloc (Obj.cells #[.int .i64 4, .int .i64 n, .complex .f32 0 0, .complex .f32 0 0, .complex .f32 0 0, .complex .f32 0 0, .float .f32 0, .float .f32 0, .float .f32 0, .float .f32 0, .float .f32 0, .float .f32 0, .float .f32 0] 38) := ⟨_, rfl⟩
      obtain ⟨W, hWe⟩ : ∃ W, W = V.alloc (Obj.cells #[.int .i64 0, .int .i64 n, .complex .f32 0 0, .complex .f32 0 0, .complex .f32 0 0, .complex .f32 0 0, .float .f32 0, .float .f32 0, .float .f32 0, .float .f32 0, .float .f32 0, .float .f32 0, .float .f32 0] 38) := ⟨_, rfl⟩
      have zV : V.heap.size = w.heap.size + 1 := by rw [hVe]; simp
      have hW : Below w.heap.size w W := by rw [hWe, hVe]; (repeat (first | with_reducible assumption | exact Below.refl _ _ | (refine Below.setCell ?_ (by first | exact Nat.le_refl _ | (simp; done) | omega | (simp; omega)) _) | (refine below_drewN ?_ _) | (refine Below.drew ?_) | (refine Below.alloc ?_ (by first | exact Nat.le_refl _ | (simp; done) | omega | (simp; omega)) _) | (refine then_ ?_ (by with_reducible assumption)) | assumption | (refine then_ ?_ (by assumption))))
      have ca : CA V w.heap.size [.int .i64 4, .int .i64 n, .complex .f32 0 0, .complex .f32 0 0, .complex .f32 0 0, .complex .f32 0 0, .float .f32 0, .float .f32 0, .float .f32 0, .float .f32 0, .float .f32 0, .float .f32 0, .float .f32 0] := by rw [hVe]; exact CA.new _ _ _
      have cb : CA W (w.heap.size + 1) [.int .i64 0, .int .i64 n, .complex .f32 0 0, .complex .f32 0 0, .complex .f32 0 0, .complex .f32 0 0, .float .f32 0, .float .f32 0, .float .f32 0, .float .f32 0, .float .f32 0, .float .f32 0, .float .f32 0] := by rw [hWe, ← zV]; exact CA.new _ _ _
      have fb : FA W (w.heap.size + 1) := by rw [hWe, ← zV]; exact FA.new _ _ _
      have ca := ca.alloc (Obj.cells #[.int .i64 0, .int .i64 n, .complex .f32 0 0, .complex .f32 0 0, .complex .f32 0 0, .complex .f32 0 0, .float .f32 0, .float .f32 0, .float .f32 0, .float .f32 0, .float .f32 0, .float .f32 0, .float .f32 0] 38)
      rw [← hWe] at ca
      have la := ca.lt
      have lb := cb.lt
      rw [← hVe, ← hWe]
      clear hVe hWe zV
      have a0 := ca 0 _ rfl; have a1 := ca 1 _ rfl
      have b0 := cb 0 _ rfl; have b1 := cb 1 _ rfl; have b2 := cb 2 _ rfl; have b3 := cb 3 _ rfl; have b4 := cb 4 _ rfl; have b5 := cb 5 _ rfl; have b6 := cb 6 _ rfl; have b7 := cb 7 _ rfl; have b8 := cb 8 _ rfl; have b9 := cb 9 _ rfl; have b10 := cb 10 _ rfl; have b11 := cb 11 _ rfl; have b12 := cb 12 _ rfl
      have f1 := fb 1
      have lt0 := la
      go_wp2_with (first | (go_at_call 39; (with_reducible refine (isKind_any n _).mono ?_); rintro e w' ⟨rfl, rfl⟩; simp only [h]))
      go_ret
      exact ⟨rfl, by (repeat (first | with_reducible assumption | exact Below.refl _ _ | (refine Below.setCell ?_ (by first | exact Nat.le_refl _ | (simp; done) | omega | (simp; omega)) _) | (refine below_drewN ?_ _) | (refine Below.drew ?_) | (refine Below.alloc ?_ (by first | exact Nat.le_refl _ | (simp; done) | omega | (simp; omega)) _) | (refine then_ ?_ (by with_reducible assumption)) | assumption | (refine then_ ?_ (by assumption))))⟩
    · skip
      go_enter Tryz.func31, Tryz.ntmps31
      go_wp2_with fail
      obtain ⟨V, hVe⟩ : ∃ V, V = w.alloc (Obj.cells #[.int .i64 4, .int .i64 n, .complex .f32 0 0, .complex .f32 0 0, .complex .f32 0 0, .complex .f32 0 0, .float .f32 0, .float .f32 0, .float .f32 0, .float .f32 0, .float .f32 0, .float .f32 0, .float .f32 0] 38) := ⟨_, rfl⟩
      obtain ⟨W, hWe⟩ : ∃ W, W = V.alloc (Obj.cells #[.int .i64 0, .int .i64 n, .complex .f32 0 0, .complex .f32 0 0, .complex .f32 0 0, .complex .f32 0 0, .float .f32 0, .float .f32 0, .float .f32 0, .float .f32 0, .float .f32 0, .float .f32 0, .float .f32 0] 38) := ⟨_, rfl⟩
      have zV : V.heap.size = w.heap.size + 1 := by rw [hVe]; simp
      have hW : Below w.heap.size w W := by rw [hWe, hVe]; (repeat (first | with_reducible assumption | exact Below.refl _ _ | (refine Below.setCell ?_ (by first | exact Nat.le_refl _ | (simp; done) | omega | (simp; omega)) _) | (refine below_drewN ?_ _) | (refine Below.drew ?_) | (refine Below.alloc ?_ (by first | exact Nat.le_refl _ | (simp; done) | omega | (simp; omega)) _) | (refine then_ ?_ (by with_reducible assumption)) | assumption | (refine then_ ?_ (by assumption))))
      have ca : CA V w.heap.size [.int .i64 4, .int .i64 n, .complex .f32 0 0, .complex .f32 0 0, .complex .f32 0 0, .complex .f32 0 0, .float .f32 0, .float .f32 0, .float .f32 0, .float .f32 0, .float .f32 0, .float .f32 0, .float .f32 0] := by rw [hVe]; exact CA.new _ _ _
      have cb : CA W (w.heap.size + 1) [.int .i64 0, .int .i64 n, .complex .f32 0 0, .complex .f32 0 0, .complex .f32 0 0, .complex .f32 0 0, .float .f32 0, .float .f32 0, .float .f32 0, .float .f32 0, .float .f32 0, .float .f32 0, .float .f32 0] := by rw [hWe, ← zV]; exact CA.new _ _ _
      have fb : FA W (w.heap.size + 1) := by rw [hWe, ← zV]; exact FA.new _ _ _
      have ca := ca.alloc (Obj.cells #[.int .i64 0, .int .i64 n, .complex .f32 0 0, .complex .f32 0 0, .complex .f32 0 0, .complex .f32 0 0, .float .f32 0, .float .f32 0, .float .f32 0, .float .f32 0, .float .f32 0, .float .f32 0, .float .f32 0] 38)
      rw [← hWe] at ca
      have la := ca.lt
      have lb := cb.lt
      rw [← hVe, ← hWe]
      clear hVe hWe zV
      have a0 := ca 0 _ rfl; have a1 := ca 1 _ rfl
      have b0 := cb 0 _ rfl; have b1 := cb 1 _ rfl; have b2 := cb 2 _ rfl; have b3 := cb 3 _ rfl; have b4 := cb 4 _ rfl; have b5 := cb 5 _ rfl; have b6 := cb 6 _ rfl; have b7 := cb 7 _ rfl; have b8 := cb 8 _ rfl; have b9 := cb 9 _ rfl; have b10 := cb 10 _ rfl; have b11 := cb 11 _ rfl; have b12 := cb 12 _ rfl
      have f1 := fb 1
      have lt0 := la
      go_wp2_with (first | (go_at_call 39; (with_reducible refine (isKind_any n _).mono ?_); rintro e w' ⟨rfl, rfl⟩; simp only [h]))
      go_ret
      exact ⟨rfl, by (repeat (first | with_reducible assumption | exact Below.refl _ _ | (refine Below.setCell ?_ (by first | exact Nat.le_refl _ | (simp; done) | omega | (simp; omega)) _) | (refine below_drewN ?_ _) | (refine Below.drew ?_) | (refine Below.alloc ?_ (by first | exact Nat.le_refl _ | (simp; done) | omega | (simp; omega)) _) | (refine then_ ?_ (by with_reducible assumption)) | assumption | (refine then_ ?_ (by assumption))))⟩
  | gravity z =>
    simp only [Ev.k, Ev.n, Ev.z, Ev.s, Ev.c, evR, sh0]
    simp only [evG] at hg
    have z2 := hg
    go_enter Tryz.func31, Tryz.ntmps31
    go_wp2_with fail
    obtain ⟨V, hVe⟩ : ∃ V, V = w.alloc (Obj.cells #[.int .i64 5, .int .i64 0, .complex .f32 z.1 z.2, .complex .f32 0 0, .complex .f32 0 0, .complex .f32 0 0, .float .f32 0, .float .f32 0, .float .f32 0, .float .f32 0, .float .f32 0, .float .f32 0, .float .f32 0] 38) := ⟨_, rfl⟩
    obtain ⟨W, hWe⟩ : ∃ W, W = V.alloc (Obj.cells #[.int .i64 0, .int .i64 0, .complex .f32 z.1 z.2, .complex .f32 0 0, .complex .f32 0 0, .complex .f32 0 0, .float .f32 0, .float .f32 0, .float .f32 0, .float .f32 0, .float .f32 0, .float .f32 0, .float .f32 0] 38) := ⟨_, rfl⟩
    have zV : V.heap.size = w.heap.size + 1 := by rw [hVe]; simp
    have hW : Below w.heap.size w W := by rw [hWe, hVe]; (repeat (first | with_reducible assumption | exact Below.refl _ _ | (refine Below.setCell ?_ (by first | exact Nat.le_refl _ | (simp; done) | omega | (simp; omega)) _) | (refine below_drewN ?_ _) | (refine Below.drew ?_) | (refine Below.alloc ?_ (by first | exact Nat.le_refl _ | (simp; done) | omega | (simp; omega)) _) | (refine then_ ?_ (by with_reducible assumption)) | assumption | (refine then_ ?_ (by assumption))))
    have ca : CA V w.heap.size [.int .i64 5, .int .i64 0, .complex .f32 z.1 z.2, .complex .f32 0 0, .complex .f32 0 0, .complex .f32 0 0, .float .f32 0, .float .f32 0, .float .f32 0, .float .f32 0, .float .f32 0, .float .f32 0, .float .f32 0] := by rw [hVe]; exact CA.new _ _ _
    have cb : CA W (w.heap.size + 1) [.int .i64 0, .int .i64 0, .complex .f32 z.1 z.2, .complex .f32 0 0, .complex .f32 0 0, .complex .f32 0 0, .float .f32 0, .float .f32 0, .float .f32 0, .float .f32 0, .float .f32 0, .float .f32 0, .float .f32 0] := by rw [hWe, ← zV]; exact CA.new _ _ _
    have fb : FA W (w.heap.size + 1) := by rw [hWe, ← zV]; exact FA.new _ _ _
    have ca := ca.alloc (Obj.cells #[.int .i64 0, .int .i64 0, .complex .f32 z.1 z.2, .complex .f32 0 0, .complex .f32 0 0, .complex .f32 0 0, .float .f32 0, .float .f32 0, .float .f32 0, .float .f32 0, .float .f32 0, .float .f32 0, .float .f32 0] 38)
    rw [← hWe] at ca
    have la := ca.lt
    have lb := cb.lt
    rw [← hVe, ← hWe]
    clear hVe hWe zV
    have a0 := ca 0 _ rfl; have a2 := ca 2 _ rfl
    have b0 := cb 0 _ rfl; have b1 := cb 1 _ rfl; have b2 := cb 2 _ rfl; have b3 := cb 3 _ rfl; have b4 := cb 4 _ rfl; have b5 := cb 5 _ rfl; have b6 := cb 6 _ rfl; have b7 := cb 7 _ rfl; have b8 := cb 8 _ rfl; have b9 := cb 9 _ rfl; have b10 := cb 10 _ rfl; have b11 := cb 11 _ rfl; have b12 := cb 12 _ rfl
    have f2 := fb 2
    go_wp2_with (go_at_call 42; (with_reducible refine (isPoint_any _ _ _).mono ?_); rintro e w' ⟨rfl, rfl⟩; simp only [z2])
    go_ret
    exact ⟨rfl, by (repeat (first | with_reducible assumption | exact Below.refl _ _ | (refine Below.setCell ?_ (by first | exact Nat.le_refl _ | (simp; done) | omega | (simp; omega)) _) | (refine below_drewN ?_ _) | (refine Below.drew ?_) | (refine Below.alloc ?_ (by first | exact Nat.le_refl _ | (simp; done) | omega | (simp; omega)) _) | (refine then_ ?_ (by with_reducible assumption)) | assumption | (refine then_ ?_ (by assumption))))⟩
  | push n z =>
    simp only [Ev.k, Ev.n, Ev.z, Ev.s, Ev.c, evR, sh0]
    simp only [evG, Bool.and_eq_true] at hg
    obtain ⟨_, z2⟩ := okW_32 hg.1 hg.2
    cases h : inB n 0 7
    · skip
      go_enter Tryz.func31, Tryz.ntmps31
      go_wp2_with fail
      obtain ⟨V, hVe⟩ : ∃ V, V = w.alloc (Obj.cells #[.int .i64 6, .int .i64 n, .complex .f32 z.1 z.2, .complex .f32 0 0, .complex .f32 0 0, .complex .f32 0 0, .float .f32 0, .float .f32 0, .float .f32 0, .float .f32 0, .float .f32 0, .float .f32 0, .float .f32 0] 38) := ⟨_, rfl⟩
      obtain ⟨W, hWe⟩ : ∃ W, W = V.alloc (Obj.cells #[.int .i64 0, .int .i64 n, .complex .f32 z.1 z.2, .complex .f32 0 0, .complex .f32 0 0, .complex .f32 0 0, .float .f32 0, .float .f32 0, .float .f32 0, .float .f32 0, .float .f32 0, .float .f32 0, .float .f32 0] 38) := ⟨_, rfl⟩
      have zV : V.heap.size = w.heap.size + 1 := by rw [hVe]; simp
      have hW : Below w.heap.size w W := by rw [hWe, hVe]; (repeat (first | with_reducible assumption | exact Below.refl _ _ | (refine Below.setCell ?_ (by first | exact Nat.le_refl _ | (simp; done) | omega | (simp; omega)) _) | (refine below_drewN ?_ _) | (refine Below.drew ?_) | (refine Below.alloc ?_ (by first | exact Nat.le_refl _ | (simp; done) | omega | (simp; omega)) _) | (refine then_ ?_ (by with_reducible assumption)) | assumption | (refine then_ ?_ (by assumption))))
      have ca : CA V w.heap.size [.int .i64 6, .int .i64 n, .complex .f32 z.1 z.2, .complex .f32 0 0, .complex .f32 0 0, .complex .f32 0 0, .float .f32 0, .float .f32 0, .float .f32 0, .float .f32 0, .float .f32 0, .float .f32 0, .float .f32 0] := by rw [hVe]; exact CA.new _ _ _
      have cb : CA W (w.heap.size + 1) [.int .i64 0, .int .i64 n, .complex .f32 z.1 z.2, .complex .f32 0 0, .complex .f32 0 0, .complex .f32 0 0, .float .f32 0, .float .f32 0, .float .f32 0, .float .f32 0, .float .f32 0, .float .f32 0, .float .f32 0] := by rw [hWe, ← zV]; exact CA.new _ _ _
      have fb : FA W (w.heap.size + 1) := by rw [hWe, ← zV]; exact FA.new _ _ _
      have ca := ca.alloc (Obj.cells #[.int .i64 0, .int .i64 n, .complex .f32 z.1 z.2, .complex .f32 0 0, .complex .f32 0 0, .complex .f32 0 0, .float .f32 0, .float .f32 0, .float .f32 0, .float .f32 0, .float .f32 0, .float .f32 0, .float .f32 0] 38)
      rw [← hWe] at ca
      have la := ca.lt
      have lb := cb.lt
      rw [← hVe, ← hWe]
      clear hVe hWe zV
      have a0 := ca 0 _ rfl; have a1 := ca 1 _ rfl; have a2 := ca 2 _ rfl
      have b0 := cb 0 _ rfl; have b1 := cb 1 _ rfl; have b2 := cb 2 _ rfl; have b3 := cb 3 _ rfl; have b4 := cb 4 _ rfl; have b5 := cb 5 _ rfl; have b6 := cb 6 _ rfl; have b7 := cb 7 _ rfl; have b8 := cb 8 _ rfl; have b9 := cb 9 _ rfl; have b10 := cb 10 _ rfl; have b11 := cb 11 _ rfl; have b12 := cb 12 _ rfl
      have f1 := fb 1; have f2 := fb 2
      have lt0 := la
      go_wp2_with (first | (go_at_call 49; (with_reducible refine (within_any n 0 7 _).mono ?_); rintro e w' ⟨rfl, rfl⟩; simp only [h]))
      go_ret
      exact ⟨rfl, by (repeat (first | with_reducible assumption | exact Below.refl _ _ | (refine Below.setCell ?_ (by first | exact Nat.le_refl _ | (simp; done) | omega | (simp; omega)) _) | (refine below_drewN ?_ _) | (refine Below.drew ?_) | (refine Below.alloc ?_ (by first | exact Nat.le_refl _ | (simp; done) | omega | (simp; omega)) _) | (refine then_ ?_ (by with_reducible assumption)) | assumption | (refine then_ ?_ (by assumption))))⟩
    · skip
      go_enter Tryz.func31, Tryz.ntmps31
      go_wp2_with fail
      obtain ⟨V, hVe⟩ : ∃ V, V = w.alloc (Obj.cells #[.int .i64 6, .int .i64 n, .complex .f32 z.1 z.2, .complex .f32 0 0, .complex .f32 0 0, .complex .f32 0 0, .float .f32 0, .float .f32 0, .float .f32 0, .float .f32 0, .float .f32 0, .float .f32 0, .float .f32 0] 38) := ⟨_, rfl⟩
      obtain ⟨W, hWe⟩ : ∃ W, W = V.alloc (Obj.cells #[.int .i64 0, .int .i64 n, .complex .f32 z.1 z.2, .complex .f32 0 0, .complex .f32 0 0, .complex .f32 0 0, .float .f32 0, .float .f32 0, .float .f32 0, .float .f32 0, .float .f32 0, .float .f32 0, .float .f32 0] 38) := ⟨_, rfl⟩
      have zV : V.heap.size = w.heap.size + 1 := by rw [hVe]; simp
      have hW : Below w.heap.size w W := by rw [hWe, hVe]; (repeat (first | with_reducible assumption | exact Below.refl _ _ | (refine Below.setCell ?_ (by first | exact Nat.le_refl _ | (simp; done) | omega | (simp; omega)) _) | (refine below_drewN ?_ _) | (refine Below.drew ?_) | (refine Below.alloc ?_ (by first | exact Nat.le_refl _ | (simp; done) | omega | (simp; omega)) _) | (refine then_ ?_ (by with_reducible assumption)) | assumption | (refine then_ ?_ (by assumption))))
      have ca : CA V w.heap.size [.int .i64 6, .int .i64 n, .complex .f32 z.1 z.2, .complex .f32 0 0, .complex .f32 0 0, .complex .f32 0 0, .float .f32 0, .float .f32 0, .float .f32 0, .float .f32 0, .float .f32 0, .float .f32 0, .float .f32 0] := by rw [hVe]; exact CA.new _ _ _
      have cb : CA W (w.heap.size + 1) [.int .i64 0, .int .i64 n, .complex .f32 z.1 z.2, .complex .f32 0 0, .complex .f32 0 0, .complex .f32 0 0, .float .f32 0, .float .f32 0, .float .f32 0, .float .f32 0, .float .f32 0, .float .f32 0, .float .f32 0] := by rw [hWe, ← zV]; exact CA.new _ _ _
      have fb : FA W (w.heap.size + 1) := by rw [hWe, ← zV]; exact FA.new _ _ _
      have ca := ca.alloc (Obj.cells #[.int .i64 0, .int .i64 n, .complex .f32 z.1 z.2, .complex .f32 0 0, .complex .f32 0 0, .complex .f32 0 0, .float .f32 0, .float .f32 0, .float .f32 0, .float .f32 0, .float .f32 0, .float .f32 0, .float .f32 0] 38)
      rw [← hWe] at ca
      have la := ca.lt
      have lb := cb.lt
      rw [← hVe, ← hWe]
      clear hVe hWe zV
      have a0 := ca 0 _ rfl; have a1 := ca 1 _ rfl; have a2 := ca 2 _ rfl
      have b0 := cb 0 _ rfl; have b1 := cb 1 _ rfl; have b2 := cb 2 _ rfl; have b3 := cb 3 _ rfl; have b4 := cb 4 _ rfl; have b5 := cb 5 _ rfl; have b6 := cb 6 _ rfl; have b7 := cb 7 _ rfl; have b8 := cb 8 _ rfl; have b9 := cb 9 _ rfl; have b10 := cb 10 _ rfl; have b11 := cb 11 _ rfl; have b12 := cb 12 _ rfl
      have f1 := fb 1; have f2 := fb 2
      have lt0 := la
      go_wp2_with (first | (go_at_call 49; (with_reducible refine (within_any n 0 7 _).mono ?_); rintro e w' ⟨rfl, rfl⟩; simp only [h]) | (go_at_call 42; (with_reducible refine (isPoint_any _ _ _).mono ?_); rintro e w' ⟨rfl, rfl⟩; simp only [z2]))
      go_ret
      exact ⟨rfl, by (repeat (first | with_reducible assumption | exact Below.refl _ _ | (refine Below.setCell ?_ (by first | exact Nat.le_refl _ | (simp; done) | omega | (simp; omega)) _) | (refine below_drewN ?_ _) | (refine Below.drew ?_) | (refine Below.alloc ?_ (by first | exact Nat.le_refl _ | (simp; done) | omega | (simp; omega)) _) | (refine then_ ?_ (by with_reducible assumption)) | assumption | (refine then_ ?_ (by assumption))))⟩
  | wait n =>
    simp only [Ev.k, Ev.n, Ev.z, Ev.s, Ev.c, evR, sh0]
    cases h : inB n 1 32
    · skip
      go_enter Tryz.func31, Tryz.ntmps31
      go_wp2_with fail
      obtain ⟨V, hVe⟩ : ∃ V, V = w.alloc (Obj.cells #[.int .i64 7, .int .i64 n, .complex .f32 0 0, .complex .f32 0 0, .complex .f32 0 0, .complex .f32 0 0, .float .f32 0, .float .f32 0, .float .f32 0, .float .f32 0, .float .f32 0, .float .f32 0, .float .f32 0] 38) := ⟨_, rfl⟩
      obtain ⟨W, hWe⟩ : ∃ W, W = V.alloc (Obj.cells #[.int .i64 0, .int .i64 n, .complex .f32 0 0, .complex .f32 0 0, .complex .f32 0 0, .complex .f32 0 0, .float .f32 0, .float .f32 0, .float .f32 0, .float .f32 0, .float .f32 0, .float .f32 0, .float .f32 0] 38) := ⟨_, rfl⟩
      have zV : V.heap.size = w.heap.size + 1 := by rw [hVe]; simp
      have hW : Below w.heap.size w W := by rw [hWe, hVe]; (repeat (first | with_reducible assumption | exact Below.refl _ _ | (refine Below.setCell ?_ (by first | exact Nat.le_refl _ | (simp; done) | omega | (simp; omega)) _) | (refine below_drewN ?_ _) | (refine Below.drew ?_) | (refine Below.alloc ?_ (by first | exact Nat.le_refl _ | (simp; done) | omega | (simp; omega)) _) | (refine then_ ?_ (by with_reducible assumption)) | assumption | (refine then_ ?_ (by assumption))))
      have ca : CA V w.heap.size [.int .i64 7, .int .i64 n, .complex .f32 0 0, .complex .f32 0 0, .complex .f32 0 0, .complex .f32 0 0, .float .f32 0, .float .f32 0, .float .f32 0, .float .f32 0, .float .f32 0, .float .f32 0, .float .f32 0] := by rw [hVe]; exact CA.new _ _ _
      have cb : CA W (w.heap.size + 1) [.int .i64 0, .int .i64 n, .complex .f32 0 0, .complex .f32 0 0, .complex .f32 0 0, .complex .f32 0 0, .float .f32 0, .float .f32 0, .float .f32 0, .float .f32 0, .float .f32 0, .float .f32 0, .float .f32 0] := by rw [hWe, ← zV]; exact CA.new _ _ _
      have fb : FA W (w.heap.size + 1) := by rw [hWe, ← zV]; exact FA.new _ _ _
      have ca := ca.alloc (Obj.cells #[.int .i64 0, .int .i64 n, .complex .f32 0 0, .complex .f32 0 0, .complex .f32 0 0, .complex .f32 0 0, .float .f32 0, .float .f32 0, .float .f32 0, .float .f32 0, .float .f32 0, .float .f32 0, .float .f32 0] 38)
      rw [← hWe] at ca
      have la := ca.lt
      have lb := cb.lt
      rw [← hVe, ← hWe]
      clear hVe hWe zV
      have a0 := ca 0 _ rfl; have a1 := ca 1 _ rfl
      have b0 := cb 0 _ rfl; have b1 := cb 1 _ rfl; have b2 := cb 2 _ rfl; have b3 := cb 3 _ rfl; have b4 := cb 4 _ rfl; have b5 := cb 5 _ rfl; have b6 := cb 6 _ rfl; have b7 := cb 7 _ rfl; have b8 := cb 8 _ rfl; have b9 := cb 9 _ rfl; have b10 := cb 10 _ rfl; have b11 := cb 11 _ rfl; have b12 := cb 12 _ rfl
      have f1 := fb 1
      have lt0 := la
      go_wp2_with (first | (go_at_call 49; (with_reducible refine (within_any n 1 32 _).mono ?_); rintro e w' ⟨rfl, rfl⟩; simp only [h]))
      go_ret
      exact ⟨rfl, by (repeat (first | with_reducible assumption | exact Below.refl _ _ | (refine Below.setCell ?_ (by first | exact Nat.le_refl _ | (simp; done) | omega | (simp; omega)) _) | (refine below_drewN ?_ _) | (refine Below.drew ?_) | (refine Below.alloc ?_ (by first | exact Nat.le_refl _ | (simp; done) | omega | (simp; omega)) _) | (refine then_ ?_ (by with_reducible assumption)) | assumption | (refine then_ ?_ (by assumption))))⟩
    · skip
      go_enter Tryz.func31, Tryz.ntmps31
      go_wp2_with fail
      obtain ⟨V, hVe⟩ : ∃ V, V = w.alloc (Obj.cells #[.int .i64 7, .int .i64 n, .complex .f32 0 0, .complex .f32 0 0, .complex .f32 0 0, .complex .f32 0 0, .float .f32 0, .float .f32 0, .float .f32 0, .float .f32 0, .float .f32 0, .float .f32 0, .float .f32 0] 38) := ⟨_, rfl⟩
      obtain ⟨W, hWe⟩ : ∃ W, W = V.alloc (Obj.cells #[.int .i64 0, .int .i64 n, .complex .f32 0 0, .complex .f32 0 0, .complex .f32 0 0, .complex .f32 0 0, .float .f32 0, .float .f32 0, .float .f32 0, .float .f32 0, .float .f32 0, .float .f32 0, .float .f32 0] 38) := ⟨_, rfl⟩
      have zV : V.heap.size = w.heap.size + 1 := by rw [hVe]; simp
      have hW : Below w.heap.size w W := by rw [hWe, hVe]; (repeat (first | with_reducible assumption | exact Below.refl _ _ | (refine Below.setCell ?_ (by first | exact Nat.le_refl _ | (simp; done) | omega | (simp; omega)) _) | (refine below_drewN ?_ _) | (refine Below.drew ?_) | (refine Below.alloc ?_ (by first | exact Nat.le_refl _ | (simp; done) | omega | (simp; omega)) _) | (refine then_ ?_ (by with_reducible assumption)) | assumption | (refine then_ ?_ (by assumption))))
      have ca : CA V w.heap.size [.int .i64 7, .int .i64 n, .complex .f32 0 0, .complex .f32 0 0, .complex .f32 0 0, .complex .f32 0 0, .float .f32 0, .float .f32 0, .float .f32 0, .float .f32 0, .float .f32 0, .float .f32 0, .float .f32 0] := by rw [hVe]; exact CA.new _ _ _
      have cb : CA W (w.heap.size + 1) [.int .i64 0, .int .i64 n, .complex .f32 0 0, .complex .f32 0 0, .complex .f32 0 0, .complex .f32 0 0, .float .f32 0, .float .f32 0, .float .f32 0, .float .f32 0, .float .f32 0, .float .f32 0, .float .f32 0] := by rw [hWe, ← zV]; exact CA.new _ _ _
      have fb : FA W (w.heap.size + 1) := by rw [hWe, ← zV]; exact FA.new _ _ _
      have ca := ca.alloc (Obj.cells #[.int .i64 0, .int .i64 n, .complex .f32 0 0, .complex .f32 0 0, .complex .f32 0 0, .complex .f32 0 0, .float .f32 0, .float .f32 0, .float .f32 0, .float .f32 0, .float .f32 0, .float .f32 0, .float .f32 0] 38)
      rw [← hWe] at ca
      have la := ca.lt
      have lb := cb.lt
      rw [← hVe, ← hWe]
      clear hVe hWe zV
      have a0 := ca 0 _ rfl; have a1 := ca 1 _ rfl
      have b0 := cb 0 _ rfl; have b1 := cb 1 _ rfl; have b2 := cb 2 _ rfl; have b3 := cb 3 _ rfl; have b4 := cb 4 _ rfl; have b5 := cb 5 _ rfl; have b6 := cb 6 _ rfl; have b7 := cb 7 _ rfl; have b8 := cb 8 _ rfl; have b9 := cb 9 _ rfl; have b10 := cb 10 _ rfl; have b11 := cb 11 _ rfl; have b12 := cb 12 _ rfl
      have f1 := fb 1
      have lt0 := la
      go_wp2_with (first | (go_at_call 49; (with_reducible refine (within_any n 1 32 _).mono ?_); rintro e w' ⟨rfl, rfl⟩; simp only [h]))
      go_ret
      exact ⟨rfl, by (repeat (first | with_reducible assumption | exact Below.refl _ _ | (refine Below.setCell ?_ (by first | exact Nat.le_refl _ | (simp; done) | omega | (simp; omega)) _) | (refine below_drewN ?_ _) | (refine Below.drew ?_) | (refine Below.alloc ?_ (by first | exact Nat.le_refl _ | (simp; done) | omega | (simp; omega)) _) | (refine then_ ?_ (by with_reducible assumption)) | assumption | (refine then_ ?_ (by assumption))))⟩
end Go.Proofs.YthlphmojldbpkaaGreat
