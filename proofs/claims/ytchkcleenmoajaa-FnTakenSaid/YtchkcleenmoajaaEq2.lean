
/- eqColour, sameComplex, eqSym; toSym, toColour. -/
import Derived.Test.YtchkcleenmoajaaEq
namespace Go.Proofs.Ytchkcleenmoajaa
open Go.RowKit

def colV (c : Nat × Nat × Nat) : Value := .agg #[.float .f32 c.1, .float .f32 c.2.1, .float .f32 c.2.2]
theorem run_store_float (P : Program) (w : World) (a : Addr) (m : Mode) (k : FloatKind) (b : Nat) : (store a (.float k b) m).run P w = stored P w a (.float k b) m := run_store P w a _ m rfl
theorem run_store_complex (P : Program) (w : World) (a : Addr) (m : Mode) (k : FloatKind) (x y : Nat) : (store a (.complex k x y) m).run P w = stored P w a (.complex k x y) m := run_store P w a _ m rfl
attribute [local go_sem] run_store_float run_store_complex
end Go.Proofs.Ytchkcleenmoajaa
