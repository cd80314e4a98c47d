
/- TurnTumble of a tumble that stays valid: the program's. -/
import Derived.Test.YtchkcleenmoajaaM37
import Derived.Deep.RegionHeld3
namespace Go.Proofs.Ytchkcleenmoajaa
open Go.RowKit
attribute [local go_sem] run_store_float run_store_complex

def turnBd (t : Int) (f : Bool) (b : Bd) : Bd := (actP t f b.1.1 b.1.2, actP t f b.2.1 b.2.2)
def turnL (t : Int) (f : Bool) (bs : List Bd) : List Bd := bs.map (turnBd t f)
theorem setKeep {w W : World} {gs B : Nat} (h : ∀ b o, b < B → ¬ b = gs → w.cell? ⟨b, o, none⟩ = W.cell? ⟨b, o, none⟩) (j : Nat) (u : Value) : ∀ b o, b < B → ¬ b = gs → (w.setCell ⟨gs, j, none⟩ u).cell? ⟨b, o, none⟩ = W.cell? ⟨b, o, none⟩ :=
  fun b o hb hn => (World.cell?_setCell_other w ⟨gs, j, none⟩ ⟨b, o, none⟩ u (fun e => hn (by injection e with e1; exact e1.symm))).trans (h b o hb hn)

end Go.Proofs.Ytchkcleenmoajaa
