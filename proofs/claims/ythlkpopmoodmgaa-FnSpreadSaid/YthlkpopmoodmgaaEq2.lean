
/- eqColour, sameComplex, eqSym; toSym, toColour. -/
import Derived.Test.YthlkpopmoodmgaaEq
namespace Go.Proofs.Ythlkpopmoodmgaa
open Go.RowKit

set_option maxHeartbeats 1000000 in
theorem toSym_any (t : Int) (f : Bool) (w : World) :
    Calls Try.prog 34 #[.agg #[.int .i64 t, .bool f]] w fun e w' => e = .returned (.agg #[.int .i64 t, .bool f]) ∧ Below w.heap.size w w' := by
  go_enter Try.func34, Try.ntmps34
  go_wp2
  refine bodyPost_ret (v := .agg #[.int .i64 t, .bool f]) (by simp [results, Try.results34, go_sem]) rfl ⟨rfl, by (repeat (first | with_reducible assumption | exact Below.refl _ _ | (refine Below.setCell ?_ (by first | exact Nat.le_refl _ | (simp; done) | omega | (simp; omega)) _) | (refine below_drewN ?_ _) | (refine Below.drew ?_) | (refine Below.alloc ?_ (by first | exact Nat.le_refl _ | (simp; done) | omega | (simp; omega)) _) | (refine then_ ?_ (by with_reducible assumption)) | assumption | (refine then_ ?_ (by assumption))))⟩
def colV (c : Nat × Nat × Nat) : Value := .agg #[.float .f32 c.1, .float .f32 c.2.1, .float .f32 c.2.2]
theorem run_store_float (P : Program) (w : World) (a : Addr) (m : Mode) (k : FloatKind) (b : Nat) : (store a (.float k b) m).run P w = stored P w a (.float k b) m := run_store P w a _ m rfl
theorem run_store_complex (P : Program) (w : World) (a : Addr) (m : Mode) (k : FloatKind) (x y : Nat) : (store a (.complex k x y) m).run P w = stored P w a (.complex k x y) m := run_store P w a _ m rfl
attribute [local go_sem] run_store_float run_store_complex
set_option maxHeartbeats 1000000 in
theorem toColour_any (r g b : Nat) (w : World) :
    Calls Try.prog 98 #[.agg #[.float .f32 r, .float .f32 g, .float .f32 b]] w fun e w' => e = .returned (.agg #[.float .f32 r, .float .f32 g, .float .f32 b]) ∧ Below w.heap.size w w' := by
  go_enter Try.func98, Try.ntmps98
  go_wp2
  refine bodyPost_ret (v := .agg #[.float .f32 r, .float .f32 g, .float .f32 b]) (by simp [results, Try.results98, go_sem]) rfl ⟨rfl, by (repeat (first | with_reducible assumption | exact Below.refl _ _ | (refine Below.setCell ?_ (by first | exact Nat.le_refl _ | (simp; done) | omega | (simp; omega)) _) | (refine below_drewN ?_ _) | (refine Below.drew ?_) | (refine Below.alloc ?_ (by first | exact Nat.le_refl _ | (simp; done) | omega | (simp; omega)) _) | (refine then_ ?_ (by with_reducible assumption)) | assumption | (refine then_ ?_ (by assumption))))⟩
set_option maxHeartbeats 1000000 in
theorem eqColour_any (r g b : Nat) (w : World) :
    Calls Try.prog 101 #[.agg #[.float .f32 r, .float .f32 g, .float .f32 b], .agg #[.float .f32 r, .float .f32 g, .float .f32 b]] w fun e w' => e = .returned (.bool true) ∧ Below w.heap.size w w' := by
  have kr := fun wx => run_conv64 (P := Try.prog) 38 42 r (by kernel_rfl) Try.underlying42 wx
  have kg := fun wx => run_conv64 (P := Try.prog) 38 42 g (by kernel_rfl) Try.underlying42 wx
  have kb := fun wx => run_conv64 (P := Try.prog) 38 42 b (by kernel_rfl) Try.underlying42 wx
  go_enter Try.func101, Try.ntmps101
  go_wp2_with (go_at_call 26; refine (sameFloat_any _ _ _ (cvB_same _ _ _)).mono ?_; rintro e w' ⟨rfl, rfl⟩)
  go_ret
  exact ⟨rfl, by (repeat (first | with_reducible assumption | exact Below.refl _ _ | (refine Below.setCell ?_ (by first | exact Nat.le_refl _ | (simp; done) | omega | (simp; omega)) _) | (refine below_drewN ?_ _) | (refine Below.drew ?_) | (refine Below.alloc ?_ (by first | exact Nat.le_refl _ | (simp; done) | omega | (simp; omega)) _) | (refine then_ ?_ (by with_reducible assumption)) | assumption | (refine then_ ?_ (by assumption))))⟩
set_option maxHeartbeats 1000000 in
theorem eqSym_any (t : Int) (f : Bool) (w : World) :
    Calls Try.prog 91 #[.agg #[.int .i64 t, .bool f], .agg #[.int .i64 t, .bool f]] w fun e w' => e = .returned (.bool true) ∧ Below w.heap.size w w' := by
  cases f
  all_goals
    go_enter Try.func91, Try.ntmps91
    go_wp2
    go_ret
    exact ⟨rfl, by (repeat (first | with_reducible assumption | exact Below.refl _ _ | (refine Below.setCell ?_ (by first | exact Nat.le_refl _ | (simp; done) | omega | (simp; omega)) _) | (refine below_drewN ?_ _) | (refine Below.drew ?_) | (refine Below.alloc ?_ (by first | exact Nat.le_refl _ | (simp; done) | omega | (simp; omega)) _) | (refine then_ ?_ (by with_reducible assumption)) | assumption | (refine then_ ?_ (by assumption))))⟩
end Go.Proofs.Ythlkpopmoodmgaa
