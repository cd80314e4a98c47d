
/- Draws: the cursor's worlds. -/
import Derived.Test.YtdjbpbolliphkaaDrawP
import Derived.Test.YtdjbpbolliphkaaSyms
import Derived.Test.YtdjbpbolliphkaaReg
import Derived.Deep.RegionLaw
import Derived.Deep.AppendLies
namespace Go.Proofs.Ytdjbpbolliphkaa
open Go.RowKit
attribute [local go_sem] run_store_float run_store_complex

theorem CurB.off {w w' : World} {g : Nat} {A : Option Addr} {m c : Nat} {bs : List Int} {row : Option Nat} (h : CurB w g A m c bs) (hg : w.grownBy w' row) (ho : ∀ k, row = some k → g < k) : CurB w' g A m c bs := by
  obtain ⟨⟨i, x, hi, hh⟩, h2, h3, h4⟩ := h
  refine ⟨⟨i, x, hi, (hg.block g h3 (fun e => by have := ho g e.symm; omega)).trans hh⟩, h2.keep (fun p hp => World.cell?_of_block (hg.block p.block (by omega) (fun e => by have := ho _ e.symm; omega))), Nat.lt_of_lt_of_le h3 hg.size, h4⟩
theorem grown_mix {a b c : World} {row row2 : Option Nat} (h : a.grownBy b row) (k : b.grownBy c row2) (hr : ∀ j, row2 = some j → a.heap.size ≤ j) : a.grownBy c row :=
  ⟨k.os.trans h.os, k.tape.trans h.tape, k.output.trans h.output, Nat.le_trans h.size k.size, fun i hi hne => (k.block i (Nat.lt_of_lt_of_le hi h.size) (fun e => by have := hr i e.symm; omega)).trans (h.block i hi hne)⟩
theorem Rd.gro {α : Type} {enc : α → List Value} {sz : Nat} {w w' : World} {B f n : Nat} {xs : List α} {row : Option Nat} {o : Nat} (h : Rd enc sz w B (some ⟨f, o, none⟩) n xs) (hg : w.grownBy w' row) (hlt : f < w.heap.size) (hne : row ≠ some f) :
    Rd enc sz w' B (some ⟨f, o, none⟩) n xs :=
  ⟨h.1, fun hn => by
    obtain ⟨b, off, e, hb, hc⟩ := h.2 hn
    injection e with e
    injection e with e1 e2
    subst e1 e2
    exact ⟨f, o, rfl, hb, fun k x hx j u hu => (World.cell?_of_block (hg.block f hlt (fun e => hne e.symm))).trans (hc k x hx j u hu)⟩⟩
theorem CurB.drew {w : World} {g : Nat} {A : Option Addr} {m c : Nat} {bs : List Int} (h : CurB w g A m c bs) : CurB w.drew g A m c bs := h
theorem grown_undrew {w w' : World} {row : Option Nat} (h : w.drew.grownBy w' row) : w.grownBy w' row := ⟨h.os, h.tape, h.output, h.size, h.block⟩
theorem frG {w w' : World} {row : Option Nat} {b : Nat} (h : ∀ j, w.frozen? ⟨b, j, none⟩ = false) (hg : w.grownBy w' row) (hb : b < w.heap.size) (hne : row ≠ some b) : ∀ j, w'.frozen? ⟨b, j, none⟩ = false :=
  fun j => (World.frozen?_of_block (hg.block b hb (fun e => hne e.symm))).trans (h j)
theorem frB {w w' : World} {b : Nat} (h : ∀ j, w.frozen? ⟨b, j, none⟩ = false) (hg : Below w.heap.size w w') (hb : b < w.heap.size) : ∀ j, w'.frozen? ⟨b, j, none⟩ = false :=
  fun j => (hg.frozen (p := ⟨b, j, none⟩) hb).trans (h j)
theorem frS {w : World} {b : Nat} (h : ∀ j, w.frozen? ⟨b, j, none⟩ = false) (p : Addr) (u : Value) : ∀ j, (w.setCell p u).frozen? ⟨b, j, none⟩ = false := by
  intro j; simp [go_sem, h j]
theorem ne_of_off {v : Value} {f : Nat} (h : Off v f) : v.ownBlock ≠ some f := h
theorem owns_gt {w : World} {base : Nat} {E : TypeId} {sz : Nat} {v : Value} {n : Nat} {xs : List Value} (h : w.ownsRow base E sz v n xs) {g : Nat} (hg : g < base) : ∀ k, v.ownBlock = some k → g < k := fun k hk => by have := (h.lt k hk).1; omega
theorem owns_ge {w : World} {base : Nat} {E : TypeId} {sz : Nat} {v : Value} {n : Nat} {xs : List Value} (h : w.ownsRow base E sz v n xs) {b : Nat} (hg : b ≤ base) : ∀ k, v.ownBlock = some k → b ≤ k := fun k hk => by have := (h.lt k hk).1; omega
end Go.Proofs.Ytdjbpbolliphkaa
