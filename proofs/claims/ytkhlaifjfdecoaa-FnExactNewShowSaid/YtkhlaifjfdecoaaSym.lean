
/- The walks of ActSym, ThenSym, BackSym. -/
import Derived.Test.YtkhlaifjfdecoaaGeo
namespace Go.Proofs.Ytkhlaifjfdecoaa
open Go.RowKit

def symV (t : Int) (f : Bool) : Value := .agg #[.int .i64 t, .bool f]
/-- impl.ActSym -/
def actP (t : Int) (f : Bool) (re im : Nat) : Nat × Nat := if inB t 0 3 && pointB re im then actI t f re im else (0, 0)

theorem inB_true {n lo hi : Int} (h : inB n lo hi = true) : lo ≤ n ∧ n ≤ hi := by simpa [inB] using h

/-- impl.ThenSym -/
def thenT (gt : Int) (ht : Int) (hf : Bool) : Int := (ht + (if hf then 4 - gt else gt)) % 4
def thenP (gt : Int) (gf : Bool) (ht : Int) (hf : Bool) : Int × Bool := if inB gt 0 3 && inB ht 0 3 then (thenT gt ht hf, gf != hf) else (0, false)
def symP (p : Int × Bool) : Value := symV p.1 p.2

end Go.Proofs.Ytkhlaifjfdecoaa
