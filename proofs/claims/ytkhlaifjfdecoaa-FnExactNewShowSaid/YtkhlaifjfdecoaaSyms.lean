
/- SymsOf, both versions: the symmetries of mirrors. -/
import Derived.Test.YtkhlaifjfdecoaaSym
import Derived.Test.YtkhlaifjfdecoaaEq2
import Derived.Test.YtkhlaifjfdecoaaDrawSyms
import Derived.Maps.AppendAt
namespace Go.Proofs.Ytkhlaifjfdecoaa
open Go.RowKit
attribute [local go_sem] run_store_float run_store_complex

def ofB (kind : Int) (g : Int × Bool) : Bool := if kind = 0 then g.1 == 0 && !g.2 else if kind = 1 then g.1 == 0 else if kind = 2 then g.1 % 2 == 0 else kind == 3
def okB (kind : Int) (g : Int × Bool) : Bool := inB kind 0 3 && ofB kind g
def symsUp (kind : Int) (m : Nat) : List (Int × Bool) := ((List.range m).map sym8).filter (okB kind)
def symsL (kind : Int) : List (Int × Bool) := symsUp kind 8

theorem symsUp_succ (kind : Int) (m : Nat) : symsUp kind (m + 1) = symsUp kind m ++ if okB kind (sym8 m) then [sym8 m] else [] := by
  unfold symsUp
  rw [List.range_succ, List.map_append, List.filter_append]
  simp [List.filter_cons]
theorem symsUp_yes {kind : Int} {m : Nat} (h : okB kind (sym8 m) = true) : symsUp kind (m + 1) = symsUp kind m ++ [sym8 m] := by rw [symsUp_succ, if_pos h]
theorem symsUp_no {kind : Int} {m : Nat} (h : okB kind (sym8 m) = false) : symsUp kind (m + 1) = symsUp kind m := by rw [symsUp_succ, if_neg (by simp [h]), List.append_nil]
theorem symsL_no {kind : Int} (h : inB kind 0 3 = false) : symsL kind = [] := by
  unfold symsL symsUp
  rw [List.filter_eq_nil_iff]
  intro g _
  simp [okB, h]
theorem symsUp_len (kind : Int) (m : Nat) : (symsUp kind m).length ≤ m := by
  unfold symsUp
  exact Nat.le_trans (List.length_filter_le _ _) (by simp)

/-- slice v's own block is another one than g -/
def Off (v : Value) (g : Nat) : Prop := v.ownBlock ≠ some g
theorem Off.next {v v' : Value} {g n : Nat} (h : Off v g) (hn : g < n) (hat : v'.ownBlock = v.ownBlock ∨ v'.ownBlock = some n) : Off v' g := by
  unfold Off at *
  rcases hat with e | e
  · rw [e]; exact h
  · rw [e]; intro h1; injection h1 with h1; omega
theorem Rd.grown {α : Type} {enc : α → List Value} {sz : Nat} {w w' : World} {B g n : Nat} {xs : List α} {v : Value} {o : Nat} (h : Rd enc sz w B (some ⟨g, o, none⟩) n xs) (hg : w.grownBy w' v.ownBlock) (hlt : g < w.heap.size) (hoff : Off v g) :
    Rd enc sz w' B (some ⟨g, o, none⟩) n xs :=
  ⟨h.1, fun hn => by
    obtain ⟨b, off, e, hb, hc⟩ := h.2 hn
    injection e with e
    injection e with e1 e2
    subst e1 e2
    exact ⟨g, o, rfl, hb, fun k x hx j u hu => (World.cell?_of_block (hg.block g hlt (fun e => hoff e.symm))).trans (hc k x hx j u hu)⟩⟩
theorem allSyms_at {k : Nat} (h : k < 8) : allSyms[k]? = some (sym8 k) := by simp [allSyms, h]
theorem sym8_t : ∀ k : Nat, k < 8 → inB (sym8 k).1 0 3 = true := by decide

theorem isKind_any (n : Int) (w : World) :
    Calls Try.prog 52 #[.int .i64 n] w fun e w' => e = .returned (.bool (inB n 0 3)) ∧ w = w' := by
  go_enter Try.func52, Try.ntmps52
  go_wp2_with (go_at_call 29; refine (within_any _ _ _ _).mono ?_; rintro e w' ⟨rfl, rfl⟩)
  go_ret
  exact ⟨rfl, rfl⟩

def Bools (w : World) (g : Nat) : Prop := w.cell? ⟨g, 0, none⟩ = some (.bool false) ∧ w.cell? ⟨g, 1, none⟩ = some (.bool true)
theorem Bools.at_ {w : World} {g j : Nat} (h : Bools w g) (hj : j < 2) : w.cell? ⟨g, j, none⟩ = some (.bool (decide (1 ≤ j))) := by
  match j, hj with
  | 0, _ => exact h.1
  | 1, _ => exact h.2
theorem sym8_jk : ∀ j : Nat, j < 2 → ∀ k : Nat, k < 4 → sym8 (4 * j + k) = ((k : Int), decide (1 ≤ j)) := by decide
theorem Bools.step {w w' : World} {g : Nat} (h : Bools w g) (hb : Below w.heap.size w w') : Bools w' g :=
  ⟨(hb.cell (World.block_lt_of_cell? w _ h.1)).trans h.1, (hb.cell (World.block_lt_of_cell? w _ h.2)).trans h.2⟩
theorem Bools.grown {w w' : World} {g : Nat} {v : Value} (h : Bools w g) (hg : w.grownBy w' v.ownBlock) (hlt : g < w.heap.size) (hoff : Off v g) : Bools w' g :=
  ⟨(World.cell?_of_block (hg.block g hlt (fun e => hoff e.symm))).trans h.1, (World.cell?_of_block (hg.block g hlt (fun e => hoff e.symm))).trans h.2⟩

end Go.Proofs.Ytkhlaifjfdecoaa
