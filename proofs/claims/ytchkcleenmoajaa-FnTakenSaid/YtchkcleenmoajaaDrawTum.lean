
/- The draw of a tumble. -/
import Derived.Test.YtchkcleenmoajaaDrawT
import Derived.Test.YtchkcleenmoajaaM23
import Derived.Test.YtchkcleenmoajaaM37
import Derived.Deep.CutRange
namespace Go.Proofs.Ytchkcleenmoajaa
open Go.RowKit
attribute [local go_sem] run_store_float run_store_complex

theorem wedge_zero : okW 0 = true := by decide +kernel
theorem okW_reach {x : Nat} (h : okW x = true) : reachB x = true := by unfold okW at h; rw [Bool.and_eq_true] at h; exact h.1
theorem speed_point {p : Nat × Nat} (h : speedOk p) : pointB p.1 p.2 = true := by
  unfold pointB; rw [okW_reach h.1, okW_reach h.2]; rfl

theorem keepGF_then {w w1 : World} {g b o : Nat} {v : Value} {Goal : Prop} (hg : w.grownBy w1 (some g)) (hne : b ≠ g) (h : w.cell? ⟨b, o, none⟩ = some v) (hf : w.frozen? ⟨b, o, none⟩ = false) (k : w1.cell? ⟨b, o, none⟩ = some v → w1.frozen? ⟨b, o, none⟩ = false → b < w1.heap.size → Goal) : Goal :=
  have hb := World.block_lt_of_cell? _ _ h
  have h1 := ((gcell hg).1 b o hb hne).trans h
  k h1 (((gcell hg).2 b o hb hne).trans hf) (World.block_lt_of_cell? _ _ h1)
theorem drawS1 {wr w' w'' : World} {b g : Nat} {v : Value} {A : Option Addr} {m c : Nat} {bs : List Int} (h : w'.cell? ⟨b, 0, none⟩ = some v ∧ wr.grownBy w' (some g) ∧ CurB w' g A m c bs) (hz : b < wr.heap.size) (hne : b ≠ g) (hc : CurB w'' g A m c bs) (hg : w'.grownBy w'' (some g)) :
    w''.cell? ⟨b, 0, none⟩ = some v ∧ wr.grownBy w'' (some g) ∧ CurB w'' g A m c bs :=
  ⟨((gcell hg).1 b 0 (Nat.lt_of_lt_of_le hz h.2.1.size) hne).trans h.1, grown_trans h.2.1 hg, hc⟩
theorem drawS2 {wr w' w'' : World} {b g : Nat} {v : Value} {A : Option Addr} {m c : Nat} {bs : List Int} (h : w'.cell? ⟨b, 0, none⟩ = some v ∧ wr.grownBy w' (some g) ∧ CurB w' g A m c bs) (_ : b < wr.heap.size) (hb : Below w'.heap.size w' w'') :
    w''.cell? ⟨b, 0, none⟩ = some v ∧ wr.grownBy w'' (some g) ∧ CurB w'' g A m c bs :=
  ⟨keepC h.1 hb, grown_trans h.2.1 (grown_of_below hb _), h.2.2.step hb⟩

theorem drawS5 {wr w' : World} {b g : Nat} {v : Value} {A : Option Addr} {m c : Nat} {bs : List Int} (h : w'.cell? ⟨b, 0, none⟩ = some v ∧ wr.grownBy w' (some g) ∧ CurB w' g A m c bs) (hz : b < wr.heap.size) (o : Obj) :
    (w'.alloc o).cell? ⟨b, 0, none⟩ = some v ∧ wr.grownBy (w'.alloc o) (some g) ∧ CurB (w'.alloc o) g A m c bs := drawS2 h hz (by (repeat (first | with_reducible assumption | exact Below.refl _ _ | (refine Below.setCell ?_ (by first | exact Nat.le_refl _ | (simp; done) | omega | (simp; omega)) _) | (refine below_drewN ?_ _) | (refine Below.drew ?_) | (refine Below.alloc ?_ (by first | exact Nat.le_refl _ | (simp; done) | omega | (simp; omega)) _) | (refine then_ ?_ (by with_reducible assumption)) | assumption | (refine then_ ?_ (by assumption)))))

theorem gSz {w w1 : World} {g : Nat} (h : w.drew.grownBy w1 (some g)) : w.heap.size ≤ w1.heap.size := h.size
theorem drawS6 {wr w' : World} {b g : Nat} {v : Value} {A : Option Addr} {m c : Nat} {bs : List Int} {p : Addr} (h : w'.cell? ⟨b, 0, none⟩ = some v ∧ wr.grownBy w' (some g) ∧ CurB w' g A m c bs) (hz : b < wr.heap.size) (hgr : g < wr.heap.size) (hp : wr.heap.size ≤ p.block) (u : Value) :
    (w'.setCell p u).cell? ⟨b, 0, none⟩ = some v ∧ wr.grownBy (w'.setCell p u) (some g) ∧ CurB (w'.setCell p u) g A m c bs :=
  ⟨(World.cell?_of_block (Below.heap_setCell w' p u b (by omega))).trans h.1, grown_new h.2.1 hp u, curB_set h.2.2 (by omega) u⟩

end Go.Proofs.Ytchkcleenmoajaa
