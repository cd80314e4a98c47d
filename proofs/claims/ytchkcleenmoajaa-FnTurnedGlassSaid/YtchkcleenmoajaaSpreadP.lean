
/- SpreadPicture: what it computes; plain facts. -/
import Derived.Test.YtchkcleenmoajaaM23
import Derived.Test.YtchkcleenmoajaaIsPic
import Derived.Test.YtchkcleenmoajaaM15
import Derived.Test.YtchkcleenmoajaaAct
import Derived.Deep.AppendLies
import Derived.Deep.RegionLaw
namespace Go.Proofs.Ytchkcleenmoajaa
open Go.RowKit
attribute [local go_sem] run_store_float run_store_complex

def spreadUp (kind s : Int) (xs : List Col) (k : Nat) : List Col := (List.range k).map (fun (i : Nat) => xs.getD (firstI kind s (i : Int)).toNat (0, 0, 0))
def spreadL (kind s : Int) (xs : List Col) : Int × List Col := if inB kind 0 3 && pictB s xs then (s, spreadUp kind s xs xs.length) else (0, [])
def spreadOk (kind s : Int) (xs : List Col) : Bool := inB kind 0 3 && pictB s xs
theorem spreadUp_len (kind s : Int) (xs : List Col) (k : Nat) : (spreadUp kind s xs k).length = k := by simp [spreadUp]
theorem spreadUp_succ {kind s : Int} {xs : List Col} {k q : Nat} {x : Col} (hq : firstI kind s k = (q : Int)) (hx : xs[q]? = some x) : spreadUp kind s xs (k + 1) = spreadUp kind s xs k ++ [x] := by
  unfold spreadUp
  rw [List.range_succ, List.map_append]
  simp only [List.map_cons, List.map_nil]
  rw [hq, Int.toNat_natCast, List.getD_eq_getElem?_getD, hx]; rfl
theorem symsL_mem {kind : Int} {g : Int × Bool} (h : g ∈ symsL kind) : ∃ k, k < 8 ∧ g = sym8 k := by
  unfold symsL symsUp at h
  have h1 := (List.mem_filter.1 h).1
  obtain ⟨k, hk, e⟩ := List.mem_map.1 h1
  exact ⟨k, by simpa using hk, e.symm⟩
theorem firstI_bd {kind s cell : Int} (h : okCell s cell = true) : 0 ≤ firstI kind s cell ∧ firstI kind s cell ≤ cell := by
  unfold firstI firstL
  have h0 := okCell_bd h
  have : ∀ (l : List (Int × Bool)), (∀ g ∈ l, inB g.1 0 3 = true) → ∀ o : Int, 0 ≤ o → o ≤ cell → 0 ≤ l.foldl (fun o g => if cellV s cell g.1 g.2 < o then cellV s cell g.1 g.2 else o) o ∧ l.foldl (fun o g => if cellV s cell g.1 g.2 < o then cellV s cell g.1 g.2 else o) o ≤ cell := by
    intro l
    induction l with
    | nil => intro _ o a b; exact ⟨a, b⟩
    | cons g l ih =>
      intro hl o a b
      refine ih (fun g' hg' => hl g' (List.mem_cons_of_mem _ hg')) _ ?_ ?_
      · have hv : cellV s cell g.1 g.2 = cellI s cell g.1 g.2 := by
          have := hl g (List.mem_cons_self ..)
          simp [cellV, h, this]
        have := (cellI_bd h g.1 g.2).1
        dsimp only; split <;> omega
      · dsimp only; split <;> omega
  refine this _ (fun g hg => ?_) cell h0.2.2.1 (Int.le_refl _)
  obtain ⟨k, hk, rfl⟩ := symsL_mem (List.mem_of_mem_take hg)
  exact sym8_t k hk

theorem ofBel2 {w2 w' : World} (hb : Below w2.heap.size w2 w') : (∀ b o, b < w2.heap.size → w'.cell? ⟨b, o, none⟩ = w2.cell? ⟨b, o, none⟩) ∧ Below w2.heap.size w2 w' := ⟨fun b o h => hb.cell (p := ⟨b, o, none⟩) h, hb⟩
theorem keepG_fr {w w1 : World} {base n : Nat} {E : TypeId} {sz : Nat} {v : Value} {xs : List Value} {p : Addr} (h : w.frozen? p = false) (ho : w.ownsRow base E sz v n xs) (hg : w.grownBy w1 v.ownBlock) (hlt : p.block < base) (hs : p.block < w.heap.size) : w1.frozen? p = false :=
  (World.frozen?_of_block (hg.block p.block hs (fun e => by have := (ho.lt _ e.symm).1; omega))).trans h

end Go.Proofs.Ytchkcleenmoajaa
