
/- Tools for regions that make memory. -/
import Derived.Test.YtkhlaifjfdecoaaOwn
import Derived.Deep.RegionHeld3
import Derived.Deep.DeepCutAuto
namespace Go.Proofs.Ytkhlaifjfdecoaa
open Go.RowKit

theorem bcellz {W w1 : World} (hb : Below W.heap.size W w1) : (∀ b o, b < W.heap.size → w1.cell? ⟨b, o, none⟩ = W.cell? ⟨b, o, none⟩) ∧ (∀ b o, b < W.heap.size → w1.frozen? ⟨b, o, none⟩ = W.frozen? ⟨b, o, none⟩) ∧ (∀ b, b < W.heap.size → b < w1.heap.size) :=
  ⟨fun b o h => hb.cell (p := ⟨b, o, none⟩) h, fun b o h => hb.frozen (p := ⟨b, o, none⟩) h, fun _ h => Nat.lt_of_lt_of_le h hb.size⟩
theorem startSM (W : World) (n : Nat) : (∀ b o, b < W.heap.size → (W.drewN n).drew.cell? ⟨b, o, none⟩ = W.cell? ⟨b, o, none⟩) ∧ Below W.heap.size W (W.drewN n).drew := ⟨fun _ _ _ => rfl, (below_drewN (Below.refl _ _) n).drew⟩
theorem ofBel {W w2 : World} (hb : Below W.heap.size W w2) : (∀ b o, b < W.heap.size → w2.cell? ⟨b, o, none⟩ = W.cell? ⟨b, o, none⟩) ∧ Below W.heap.size W w2 := ⟨fun b o h => hb.cell (p := ⟨b, o, none⟩) h, hb⟩
theorem keepCF_then {w w1 : World} {p : Addr} {v : Value} {G : Prop} (hb : Below w.heap.size w w1) (h : w.cell? p = some v) (hf : w.frozen? p = false) (k : w1.cell? p = some v → w1.frozen? p = false → p.block < w1.heap.size → G) : G :=
  k (keepC h hb) (keepF h hf hb) (World.block_lt_of_cell? _ _ (keepC h hb))
theorem own_set {w : World} {base g : Nat} {E : TypeId} {sz : Nat} {v : Value} {n : Nat} {xs : List Value} (h : w.ownsRow base E sz v n xs) (ho : Off v g) (j : Nat) (u : Value) : (w.setCell ⟨g, j, none⟩ u).ownsRow base E sz v n xs :=
  owns_grown (row := some g) h (grown_set (World.grownBy.refl _ _) _ _) (fun k hk => by injection hk with hk; rw [← hk]; exact ho)
theorem off_lt {w : World} {base g : Nat} {E : TypeId} {sz : Nat} {v : Value} {n : Nat} {xs : List Value} (h : w.ownsRow base E sz v n xs) (hg : g < base) : Off v g := by
  intro hv
  have := (h.lt g hv).1
  omega
theorem off_ge {w : World} {base g : Nat} {E : TypeId} {sz : Nat} {v : Value} {n : Nat} {xs : List Value} (h : w.ownsRow base E sz v n xs) (hg : w.heap.size ≤ g) : Off v g := by
  intro hv
  have := (h.lt g hv).2
  omega
theorem keepG_lt {w w1 : World} {base n : Nat} {E : TypeId} {sz : Nat} {v u : Value} {xs : List Value} {p : Addr} (h : w.cell? p = some u) (ho : w.ownsRow base E sz v n xs) (hg : w.grownBy w1 v.ownBlock) (hlt : p.block < base) : w1.cell? p = some u :=
  hg.cell h (fun e => by have := (ho.lt _ e.symm).1; omega)
theorem keepG_off {w w1 : World} {v u : Value} {p : Addr} (h : w.cell? p = some u) (hg : w.grownBy w1 v.ownBlock) (hoff : Off v p.block) : w1.cell? p = some u :=
  hg.cell h (fun e => hoff e.symm)
/-- a picture in a variable of the law's own, its row the callee's -/
def BoxP (W : World) (s : Int) (ys : List Col) (p : Value) (w : World) : Prop :=
  ∃ g B d, p = .pointer (some ⟨g, 0, none⟩) ∧ w.cell? ⟨g, 0, none⟩ = some (.int .i64 s) ∧ w.cell? ⟨g, 1, none⟩ = some (.slice B ys.length d) ∧ W.heap.size ≤ g ∧
    w.ownsRow W.heap.size 25 3 (.slice B ys.length d) ys.length (flat colC ys) ∧ Off (.slice B ys.length d) g ∧ Below W.heap.size W w
/-- the variable was made ahead of the callee -/
theorem boxP_first {W w0 w : World} {s : Int} {ys : List Col} {B : Option Addr} {d g : Nat} {u v : Value} (ho : w.ownsRow w0.heap.size 25 3 (.slice B ys.length d) ys.length (flat colC ys)) (hle : W.heap.size ≤ w0.heap.size) (hg0 : W.heap.size ≤ g) (hg : g < w0.heap.size)
    (h0 : w.cell? ⟨g, 0, none⟩ = some u) (h1 : w.cell? ⟨g, 1, none⟩ = some v) (hb : Below W.heap.size W w) : BoxP W s ys (.pointer (some ⟨g, 0, none⟩)) ((w.setCell ⟨g, 0, none⟩ (.int .i64 s)).setCell ⟨g, 1, none⟩ (.slice B ys.length d)) := by
  have off := off_lt ho hg
  refine ⟨g, B, d, rfl, ?_, ?_, hg0, owns_mono (own_set (own_set ho off _ _) off _ _) hle, off, (hb.setCell hg0 _).setCell hg0 _⟩
  · simp [go_sem, h0]
  · simp [go_sem, h1]
end Go.Proofs.Ytkhlaifjfdecoaa
