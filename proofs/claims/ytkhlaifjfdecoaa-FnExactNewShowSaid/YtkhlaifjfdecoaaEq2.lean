
/- eqColour, sameComplex, eqSym; toSym, toColour. -/
import Derived.Test.YtkhlaifjfdecoaaEq
namespace Go.Proofs.Ytkhlaifjfdecoaa
open Go.RowKit

theorem sameComplex_any (a b c d : Nat) (w : World) (h1 : SameD a c) (h2 : SameD b d) :
    Calls Try.prog 38 #[.complex .f64 a b, .complex .f64 c d] w fun e w' => e = .returned (.bool true) ∧ w = w' := by
  have H1 := Lib.hid h1
  have H2 := Lib.hid h2
  clear h1 h2
  go_enter Try.func38, Try.ntmps38
  go_wp2_with (go_at_call 12; refine (sameFloat_any _ _ _ (by first | exact H1.out | exact H2.out)).mono ?_; rintro e w' ⟨rfl, rfl⟩)
  go_ret
  exact ⟨rfl, rfl⟩
def colV (c : Nat × Nat × Nat) : Value := .agg #[.float .f32 c.1, .float .f32 c.2.1, .float .f32 c.2.2]
theorem run_store_float (P : Program) (w : World) (a : Addr) (m : Mode) (k : FloatKind) (b : Nat) : (store a (.float k b) m).run P w = stored P w a (.float k b) m := run_store P w a _ m rfl
theorem run_store_complex (P : Program) (w : World) (a : Addr) (m : Mode) (k : FloatKind) (x y : Nat) : (store a (.complex k x y) m).run P w = stored P w a (.complex k x y) m := run_store P w a _ m rfl
attribute [local go_sem] run_store_float run_store_complex
set_option maxHeartbeats 1000000 in
theorem toColour_any (r g b : Nat) (w : World) :
    Calls Try.prog 5 #[.agg #[.float .f32 r, .float .f32 g, .float .f32 b]] w fun e w' => e = .returned (.agg #[.float .f32 r, .float .f32 g, .float .f32 b]) ∧ Below w.heap.size w w' := by
  go_enter Try.func5, Try.ntmps5
  go_wp2
  refine bodyPost_ret (v := .agg #[.float .f32 r, .float .f32 g, .float .f32 b]) (by simp [results, Try.results5, go_sem]) rfl ⟨rfl, by (repeat (first | with_reducible assumption | exact Below.refl _ _ | (refine Below.setCell ?_ (by first | exact Nat.le_refl _ | (simp; done) | omega | (simp; omega)) _) | (refine below_drewN ?_ _) | (refine Below.drew ?_) | (refine Below.alloc ?_ (by first | exact Nat.le_refl _ | (simp; done) | omega | (simp; omega)) _) | (refine then_ ?_ (by with_reducible assumption)) | assumption | (refine then_ ?_ (by assumption))))⟩
set_option maxHeartbeats 1000000 in
theorem eqColour_any (r g b : Nat) (w : World) :
    Calls Try.prog 13 #[.agg #[.float .f32 r, .float .f32 g, .float .f32 b], .agg #[.float .f32 r, .float .f32 g, .float .f32 b]] w fun e w' => e = .returned (.bool true) ∧ Below w.heap.size w w' := by
  have kr := fun wx => run_conv64 (P := Try.prog) 22 42 r (by kernel_rfl) Try.underlying42 wx
  have kg := fun wx => run_conv64 (P := Try.prog) 22 42 g (by kernel_rfl) Try.underlying42 wx
  have kb := fun wx => run_conv64 (P := Try.prog) 22 42 b (by kernel_rfl) Try.underlying42 wx
  go_enter Try.func13, Try.ntmps13
  go_wp2_with (go_at_call 12; refine (sameFloat_any _ _ _ (cvB_same _ _ _)).mono ?_; rintro e w' ⟨rfl, rfl⟩)
  go_ret
  exact ⟨rfl, by (repeat (first | with_reducible assumption | exact Below.refl _ _ | (refine Below.setCell ?_ (by first | exact Nat.le_refl _ | (simp; done) | omega | (simp; omega)) _) | (refine below_drewN ?_ _) | (refine Below.drew ?_) | (refine Below.alloc ?_ (by first | exact Nat.le_refl _ | (simp; done) | omega | (simp; omega)) _) | (refine then_ ?_ (by with_reducible assumption)) | assumption | (refine then_ ?_ (by assumption))))⟩
end Go.Proofs.Ytkhlaifjfdecoaa
