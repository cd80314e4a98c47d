
/- Points and symmetries: what IsPoint, IsSym, ActSym and their like compute. -/
import Derived.Test.YtchkcleenmoajaaBase
namespace Go.Proofs.Ytchkcleenmoajaa
open Go.RowKit

def reachB (x : Nat) : Bool := geB x 3313500160 && leB x 1166016512
def pointB (re im : Nat) : Bool := reachB re && reachB im
def rotB (p : Nat × Nat) : Nat × Nat := (subB 0 p.2, p.1)
def rotN : Nat → Nat × Nat → Nat × Nat
  | 0, p => p
  | n + 1, p => rotB (rotN n p)
def flipB (f : Bool) (y : Nat) : Nat := if f then subB 0 y else y
/-- what spec.l1Act computes -/
def actS (t : Int) (f : Bool) (re im : Nat) : Nat × Nat := rotN t.toNat (addB re 0, flipB f (addB im 0))
/-- what impl.ActSym computes of a point -/
def actI (t : Int) (f : Bool) (re im : Nat) : Nat × Nat :=
  (cleanB (rotN t.toNat (re, flipB f im)).1, cleanB (rotN t.toNat (re, flipB f im)).2)
def cxV (p : Nat × Nat) : Value := .complex .f32 p.1 p.2

theorem below_drewN {B : Nat} {a w : World} (h : Below B a w) (n : Nat) : Below B a (w.drewN n) := ⟨h.os, h.tape, h.output, h.size, h.block⟩
theorem Dr.below {w w' : World} (h : Dr w w') : Below w.heap.size w w' := by
  obtain ⟨n, rfl⟩ := h
  exact below_drewN (Below.refl _ _) n

theorem reach_fin {x : Nat} (h : reachB x = true) : finB x = true := by
  rcases three x with h1 | h1 | h1
  · exact h1
  · exfalso
    have e := read_inf h1
    have r1 : Ieee.single.read 3313500160 = .number true 8388608 (-11) := by decide
    have r2 : Ieee.single.read 1166016512 = .number false 8388608 (-11) := by decide
    simp only [reachB, geB, leB, ordB, Ieee.Format.order, e, r1, r2, Ieee.Datum.order] at h
    cases hs : (x / 2147483648 % 2 == 1) <;> rw [hs] at h <;> revert h <;> decide
  · exfalso
    unfold reachB geB leB at h
    rw [ord_nan_left h1] at h
    simp at h

theorem inReach_any (x : Nat) (w : World) :
    Calls Try.prog 65 #[.float .f32 x] w fun e w' => e = .returned (.bool (reachB x)) ∧ w = w' := by
  have r : reachB x = (geB x 3313500160 && leB x 1166016512) := rfl
  cases h1 : geB x 3313500160
  all_goals
    rw [h1] at r
    have e1 : (FloatKind.f32.format.order x 3313500160 == some .gt || FloatKind.f32.format.order x 3313500160 == some .eq) = geB x 3313500160 := rfl
    rw [h1] at e1
    have R := Lib.hid r
    clear r h1
    go_enter Try.func65, Try.ntmps65
    go_wp2
    go_ret
    exact ⟨by rw [R.out]; simp [leB, ordB, FloatKind.format], rfl⟩

theorem isPoint_any (re im : Nat) (w : World) :
    Calls Try.prog 49 #[.complex .f32 re im] w fun e w' => e = .returned (.bool (pointB re im)) ∧ w = w' := by
  have r : pointB re im = (reachB re && reachB im) := rfl
  cases h1 : reachB re
  all_goals
    rw [h1] at r
    have R := Lib.hid r
    clear r
    go_enter Try.func49, Try.ntmps49
    go_wp2_with (go_at_call 65; refine (inReach_any _ _).mono ?_; rintro e w' ⟨rfl, rfl⟩; try simp only [h1])
    go_ret
    exact ⟨by rw [R.out]; simp, rfl⟩

theorem isSym_any (t : Int) (f : Bool) (w : World) :
    Calls Try.prog 24 #[.agg #[.int .i64 t, .bool f]] w fun e w' => e = .returned (.bool (inB t 0 3)) ∧ Below w.heap.size w w' := by
  go_enter Try.func24, Try.ntmps24
  go_wp2_with (go_at_call 29; refine (within_any _ _ _ _).mono ?_; rintro e w' ⟨rfl, rfl⟩)
  go_ret
  exact ⟨rfl, (Below.refl _ _).alloc (Nat.le_refl _) _⟩
theorem bcell {B : Nat} {W w1 : World} (hb : Below B W w1) : (∀ b o, b < B → w1.cell? ⟨b, o, none⟩ = W.cell? ⟨b, o, none⟩) ∧ (∀ b o, b < B → w1.frozen? ⟨b, o, none⟩ = W.frozen? ⟨b, o, none⟩) :=
  ⟨fun b o h => hb.cell (p := ⟨b, o, none⟩) h, fun b o h => hb.frozen (p := ⟨b, o, none⟩) h⟩

theorem startS (W : World) : (∀ b o, b < W.heap.size → W.drew.cell? ⟨b, o, none⟩ = W.cell? ⟨b, o, none⟩) ∧ Below W.heap.size W W.drew := ⟨fun _ _ _ => rfl, (Below.refl _ _).drew⟩
theorem stepS {W w1 w2 : World} (h : (∀ b o, b < W.heap.size → w1.cell? ⟨b, o, none⟩ = W.cell? ⟨b, o, none⟩) ∧ Below W.heap.size W w1) (hb : Below w1.heap.size w1 w2) :
    (∀ b o, b < W.heap.size → w2.cell? ⟨b, o, none⟩ = W.cell? ⟨b, o, none⟩) ∧ Below W.heap.size W w2 := by
  have k : Below W.heap.size W w2 := h.2.trans (hb.mono h.2.size)
  exact ⟨fun b o hlt => k.cell (p := ⟨b, o, none⟩) hlt, k⟩
theorem keepC {w w1 : World} {p : Addr} {v : Value} (h : w.cell? p = some v) (hb : Below w.heap.size w w1) : w1.cell? p = some v :=
  (hb.cell (World.block_lt_of_cell? w p h)).trans h
theorem keepF {w w1 : World} {p : Addr} {v : Value} (h : w.cell? p = some v) (hf : w.frozen? p = false) (hb : Below w.heap.size w w1) : w1.frozen? p = false :=
  (hb.frozen (World.block_lt_of_cell? w p h)).trans hf
theorem after1 {w w1 : World} {o : Obj} (h : Below (w.alloc o).heap.size (w.alloc o) w1) : Below w.heap.size w w1 :=
  ((Below.refl _ _).alloc (Nat.le_refl _) _).trans (h.mono (by simp))
theorem after2 {w w1 : World} {o1 o2 : Obj} (h : Below ((w.alloc o1).alloc o2).heap.size ((w.alloc o1).alloc o2) w1) : Below w.heap.size w w1 := after1 ((after1 h).mono (by simp))
theorem after3 {w w1 : World} {o1 o2 o3 : Obj} (h : Below (((w.alloc o1).alloc o2).alloc o3).heap.size (((w.alloc o1).alloc o2).alloc o3) w1) : Below w.heap.size w w1 := after2 ((after1 h).mono (by simp))
theorem then_ {w w1 w2 : World} (h : Below w.heap.size w w1) (k : Below w1.heap.size w1 w2) : Below w.heap.size w w2 := h.trans (k.mono h.size)

end Go.Proofs.Ytchkcleenmoajaa
