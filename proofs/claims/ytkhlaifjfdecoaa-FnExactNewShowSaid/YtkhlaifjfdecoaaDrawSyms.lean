
/- DrawSyms: three of the eight symmetries. -/
import Derived.Test.YtkhlaifjfdecoaaDraw
import Derived.Deep.RegionHeld3
import Derived.BigRegion
namespace Go.Proofs.Ytkhlaifjfdecoaa
open Go.RowKit

theorem Rd.sym {w : World} {B : Nat} {A : Option Addr} {n k : Nat} {xs : List (Int × Bool)} (h : Rd symC 2 w B A n xs) (hk : k < n) :
    ∃ b off t f, A = some ⟨b, off, none⟩ ∧ b < B ∧ xs[k]? = some (t, f) ∧ w.cell? ⟨b, off + k * 2, none⟩ = some (.int .i64 t) ∧ w.cell? ⟨b, off + k * 2 + 1, none⟩ = some (.bool f) := by
  obtain ⟨b, off, ⟨t, f⟩, e, hb, hx, hc⟩ := h.at_ hk
  exact ⟨b, off, t, f, e, hb, hx, hc 0 _ rfl, hc 1 _ rfl⟩
theorem gcell {w w1 : World} {g : Nat} (hg : w.grownBy w1 (some g)) : (∀ b o, b < w.heap.size → b ≠ g → w1.cell? ⟨b, o, none⟩ = w.cell? ⟨b, o, none⟩) ∧ (∀ b o, b < w.heap.size → b ≠ g → w1.frozen? ⟨b, o, none⟩ = w.frozen? ⟨b, o, none⟩) :=
  ⟨fun b o h hne => World.cell?_of_block (hg.block b h (fun e => hne (by injection e))), fun b o h hne => World.frozen?_of_block (hg.block b h (fun e => hne (by injection e)))⟩

theorem seesSet {W w2 : World} {ga : Nat} (h : ∀ o, W.cell? ⟨ga, o, none⟩ = w2.cell? ⟨ga, o, none⟩) {p : Addr} (hp : ¬ p.block = ga) (u : Value) : ∀ o, (W.setCell p u).cell? ⟨ga, o, none⟩ = w2.cell? ⟨ga, o, none⟩ :=
  fun o => (World.cell?_setCell_other W p ⟨ga, o, none⟩ u (fun e => hp (by rw [e]))).trans (h o)

theorem seesDrew (w2 : World) (ga : Nat) : ∀ o, w2.drew.cell? ⟨ga, o, none⟩ = w2.cell? ⟨ga, o, none⟩ := fun _ => rfl
theorem seesOf {w2 w3 : World} {ga g : Nat} (h : ∀ b o, b < w2.heap.size → b ≠ g → w3.cell? ⟨b, o, none⟩ = w2.cell? ⟨b, o, none⟩) (h1 : ga < w2.heap.size) (h2 : ¬ ga = g) : ∀ o, w3.cell? ⟨ga, o, none⟩ = w2.cell? ⟨ga, o, none⟩ := fun o => h ga o h1 h2

end Go.Proofs.Ytkhlaifjfdecoaa
