
/- l3Plus: the specification's. -/
import Derived.Test.YtchkcleenmoajaaFold
namespace Go.Proofs.Ytchkcleenmoajaa
open Go.RowKit
attribute [local go_sem] run_store_float run_store_complex

theorem specPlus_any (a b : Pt) (w : World) :
    Calls Try.prog 62 #[.complex .f32 a.1 a.2, .complex .f32 b.1 b.2] w fun e w' => e = .returned (.complex .f32 (plusP a b).1 (plusP a b).2) ∧ Dr w w' := by
  go_enter Try.func62, Try.ntmps62
  go_wp2_with fail
  refine (l1Plus_any _ _ _).mono ?_
  rintro e w' ⟨rfl, n, rfl⟩
  go_wp2_with fail
  refine (l1Plus_any _ _ _).mono ?_
  rintro e w' ⟨rfl, k, rfl⟩
  go_wp2
  go_ret
  exact ⟨rfl, n + k, rfl⟩

end Go.Proofs.Ytchkcleenmoajaa
