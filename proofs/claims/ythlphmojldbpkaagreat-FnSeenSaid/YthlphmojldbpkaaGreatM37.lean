/- Act · SpreadP -/
import Derived.Test.YthlphmojldbpkaaGreatM36
import Derived.Test.YthlphmojldbpkaaGreatM1
import Derived.Deep.RegionHeld3
import Derived.Deep.DeepCutAuto
import Derived.Deep.AppendLies
import Derived.Deep.RegionLaw

/- ActPicture, both versions. -/
namespace Go.Proofs.YthlphmojldbpkaaGreat
open Go.RowKit
attribute [local go_sem] run_store_float run_store_complex

def actStep (s t : Int) (f : Bool) (xs ys : List Col) (i : Nat) : List Col := ys.set (cellI s i t f).toNat (xs.getD i (0, 0, 0))
def actUp (s t : Int) (f : Bool) (xs : List Col) (k : Nat) : List Col := (List.range k).foldl (actStep s t f xs) (List.replicate xs.length (0, 0, 0))
def actL (t : Int) (f : Bool) (s : Int) (xs : List Col) : Int × List Col := if inB t 0 3 && pictB s xs then (s, actUp s t f xs xs.length) else (0, [])
theorem actUp_succ {s t : Int} {f : Bool} {xs : List Col} {k : Nat} {x : Col} (hx : xs[k]? = some x) : actUp s t f xs (k + 1) = (actUp s t f xs k).set (cellI s k t f).toNat x := by
  unfold actUp
  rw [List.range_succ, List.foldl_append]
  show actStep s t f xs _ k = _
  unfold actStep
  rw [List.getD_eq_getElem?_getD, hx]; rfl
theorem actUp_len (s t : Int) (f : Bool) (xs : List Col) (k : Nat) : (actUp s t f xs k).length = xs.length := by
  induction k with
  | zero => simp [actUp]
  | succ k ih =>
    unfold actUp at *
    rw [List.range_succ, List.foldl_append]
    show (actStep s t f xs _ k).length = _
    unfold actStep
    rw [List.length_set]; exact ih
theorem cellI_bd {s k : Int} (h : okCell s k = true) (t : Int) (f : Bool) : 0 ≤ cellI s k t f ∧ cellI s k t f < s * s := by
  obtain ⟨h1, h2, h3, h4, h5, h6⟩ := okCell_bd h
  have hs := aI_sm (ptI_sm h) t f
  unfold cellI
  generalize aI t f (ptI s k) = q at hs
  obtain ⟨x, y⟩ := q
  obtain ⟨a, b, c, d⟩ := hs
  dsimp only at a b c d
  unfold toCell
  dsimp only
  have e1 : 0 ≤ (s - 1 - y) / 2 ∧ (s - 1 - y) / 2 ≤ s - 1 := by omega
  have e2 : 0 ≤ (x + s - 1) / 2 ∧ (x + s - 1) / 2 ≤ s - 1 := by omega
  generalize (s - 1 - y) / 2 = A at e1
  generalize (x + s - 1) / 2 = B at e2
  have e3 : A * s ≤ (s - 1) * s := Int.mul_le_mul_of_nonneg_right e1.2 (by omega)
  have e4 : 0 ≤ A * s := Int.mul_nonneg e1.1 (by omega)
  have e5 : (s - 1) * s = s * s - s := by rw [Int.sub_mul]; omega
  omega

end Go.Proofs.YthlphmojldbpkaaGreat

/- SpreadPicture: what it computes; plain facts. -/
namespace Go.Proofs.YthlphmojldbpkaaGreat
open Go.RowKit
attribute [local go_sem] run_store_float run_store_complex

def spreadUp (kind s : Int) (xs : List Col) (k : Nat) : List Col := (List.range k).map (fun (i : Nat) => xs.getD (firstI kind s (i : Int)).toNat (0, 0, 0))
def spreadL (kind s : Int) (xs : List Col) : Int × List Col := if inB kind 0 3 && pictB s xs then (s, spreadUp kind s xs xs.length) else (0, [])
theorem spreadUp_len (kind s : Int) (xs : List Col) (k : Nat) : (spreadUp kind s xs k).length = k := by simp [spreadUp]
theorem symsL_mem {kind : Int} {g : Int × Bool} (h : g ∈ symsL kind) : ∃ k, k < 8 ∧ g = sym8 k := by
  unfold symsL symsUp at h
  have h1 := (List.mem_filter.1 h).1
  obtain ⟨k, hk, e⟩ := List.mem_map.1 h1
  exact ⟨k, by simpa using hk, e.symm⟩
theorem firstI_bd {kind s cell : Int} (h : okCell s cell = true) : 0 ≤ firstI kind s cell ∧ firstI kind s cell ≤ cell := by
  unfold firstI firstL
  have h0 := okCell_bd h
  have : ∀ (l : List (Int × Bool)), (∀ g ∈ l, inB g.1 0 3 = true) → ∀ o : Int, 0 ≤ o → o ≤ cell → 0 ≤ l.foldl (fun o g => if cellV s cell g.1 g.2 < o then cellV s cell g.1 g.2 else o) o ∧ l.foldl (fun o g => if cellV s cell g.1 g.2 < o then cellV s cell g.1 g.2 else o) o ≤ cell := by
    intro l
    induction l with
    | nil => intro _ o a b; exact ⟨a, b⟩
    | cons g l ih =>
      intro hl o a b
      refine ih (fun g' hg' => hl g' (List.mem_cons_of_mem _ hg')) _ ?_ ?_
      · have hv : cellV s cell g.1 g.2 = cellI s cell g.1 g.2 := by
          have := hl g (List.mem_cons_self ..)
          simp [cellV, h, this]
        have := (cellI_bd h g.1 g.2).1
        dsimp only; split <;> omega
      · dsimp only; split <;> omega
  refine this _ (fun g hg => ?_) cell h0.2.2.1 (Int.le_refl _)
  obtain ⟨k, hk, rfl⟩ := symsL_mem (List.mem_of_mem_take hg)
  exact sym8_t k hk

theorem keepG_fr {w w1 : World} {base n : Nat} {E : TypeId} {sz : Nat} {v : Value} {xs : List Value} {p : Addr} (h : w.frozen? p = false) (ho : w.ownsRow base E sz v n xs) (hg : w.grownBy w1 v.ownBlock) (hlt : p.block < base) (hs : p.block < w.heap.size) : w1.frozen? p = false :=
  (World.frozen?_of_block (hg.block p.block hs (fun e => by have := (ho.lt _ e.symm).1; omega))).trans h

end Go.Proofs.YthlphmojldbpkaaGreat
