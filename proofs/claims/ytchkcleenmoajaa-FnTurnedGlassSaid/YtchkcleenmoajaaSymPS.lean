
/- SymsOfPicture, the reference's. -/
import Derived.Test.YtchkcleenmoajaaSymP
import Derived.Test.YtchkcleenmoajaaM23
import Derived.Deep.RegionLaw
namespace Go.Proofs.Ytchkcleenmoajaa
open Go.RowKit
attribute [local go_sem] run_store_float run_store_complex

/-- the first m symmetries that are kept -/
def keptUp (s : Int) (xs : List Col) (m : Nat) : List (Int × Bool) := ((List.range m).map sym8).filter (fun g => pictB s xs && keepB s xs g)
theorem keptUp_succ (s : Int) (xs : List Col) (m : Nat) : keptUp s xs (m + 1) = keptUp s xs m ++ if (pictB s xs && keepB s xs (sym8 m)) then [sym8 m] else [] := by
  unfold keptUp
  rw [List.range_succ, List.map_append, List.filter_append]
  simp [List.filter_cons]
theorem keptUp_yes {s : Int} {xs : List Col} {m : Nat} (h : (pictB s xs && keepB s xs (sym8 m)) = true) : keptUp s xs (m + 1) = keptUp s xs m ++ [sym8 m] := by rw [keptUp_succ, if_pos h]
theorem keptUp_no {s : Int} {xs : List Col} {m : Nat} (h : (pictB s xs && keepB s xs (sym8 m)) = false) : keptUp s xs (m + 1) = keptUp s xs m := by rw [keptUp_succ, if_neg (by simp [h]), List.append_nil]
theorem keptUp_len (s : Int) (xs : List Col) (m : Nat) : (keptUp s xs m).length ≤ m := by
  unfold keptUp
  exact Nat.le_trans (List.length_filter_le _ _) (by simp)
theorem symsL_3 : symsL 3 = (List.range 8).map sym8 := by decide
theorem keptUp_8 (s : Int) (xs : List Col) : keptUp s xs 8 = symsP s xs := by
  unfold keptUp symsP
  rw [← symsL_3]
  cases pictB s xs
  · simp
  · simp

end Go.Proofs.Ytchkcleenmoajaa
