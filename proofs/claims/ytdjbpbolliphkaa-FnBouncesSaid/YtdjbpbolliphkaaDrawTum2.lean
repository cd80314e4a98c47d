
/- DrawTumble. -/
import Derived.Test.YtdjbpbolliphkaaDrawTum
namespace Go.Proofs.Ytdjbpbolliphkaa
open Go.RowKit
attribute [local go_sem] run_store_float run_store_complex

set_option maxHeartbeats 2000000 in
theorem drawTumble_any (A : Option Addr) (m c : Nat) (bs : List Int) (w : World) (hm : m ≤ 4096) (hr : Rd byteC 1 w w.heap.size A m bs) (hb : ∀ x ∈ bs, 0 ≤ x ∧ x ≤ 255) :
    Calls Try.prog 15 #[.slice A m c] w fun e w' => ∃ (mir : Int) (gr : Pt) (loss : Nat) (xs : List Bd) (O : Option Addr) (C N : Nat), N < 20 ∧ xs.length ≤ 8 ∧ tumB mir gr loss xs = true ∧ e = .returned (.tuple #[tumV mir gr loss (.slice O xs.length C), .int .i64 N]) ∧ w'.ownsRow w.heap.size 33 2 (.slice O xs.length C) xs.length (flat bdC xs) ∧ Below w.heap.size w w' := by
  go_enter Try.func15, Try.ntmps15
  go_wp2_with fail
  obtain ⟨W, hWe⟩ : ∃ W, W = w.alloc (Obj.cells #[.int .i64 0, .complex .f32 0 0, .float .f32 0, .slice none 0 0] 37) := ⟨_, rfl⟩
  have hW : Below w.heap.size w W := by rw [hWe]; (repeat (first | with_reducible assumption | exact Below.refl _ _ | (refine Below.setCell ?_ (by first | exact Nat.le_refl _ | (simp; done) | omega | (simp; omega)) _) | (refine below_drewN ?_ _) | (refine Below.drew ?_) | (refine Below.alloc ?_ (by first | exact Nat.le_refl _ | (simp; done) | omega | (simp; omega)) _) | (refine then_ ?_ (by with_reducible assumption)) | assumption | (refine then_ ?_ (by assumption))))
  have zW : w.heap.size < W.heap.size := by rw [hWe]; simp
  have q0 : W.cell? ⟨w.heap.size, 0, none⟩ = some (.int .i64 0) := by rw [hWe]; simp [go_sem]
  have q1 : W.cell? ⟨w.heap.size, 1, none⟩ = some (.complex .f32 0 0) := by rw [hWe]; simp [go_sem]
  have q2 : W.cell? ⟨w.heap.size, 2, none⟩ = some (.float .f32 0) := by rw [hWe]; simp [go_sem]
  have q3 : W.cell? ⟨w.heap.size, 3, none⟩ = some (.slice none 0 0) := by rw [hWe]; simp [go_sem]
  have f0 : ∀ j, W.frozen? ⟨w.heap.size, j, none⟩ = false := by intro j; rw [hWe]; simp [go_sem]
  rw [← hWe]
  clear hWe
  refine (l1New_any A m c bs _ hm (hr.step hW)).mono ?_
  rintro e w1 ⟨g, rfl, hg, hc1, hb1⟩
  have q0 := keepC q0 hb1
  have q1 := keepC q1 hb1
  have q2 := keepC q2 hb1
  have q3 := keepC q3 hb1
  have f0 := frB f0 hb1 zW
  have hW1 := then_ hW hb1
  have z1 := hW1.size
  have hcb : CurB w1 g A m c bs := ⟨hc1, (hr.below hW1).more (by omega), hc1.lt, hb, by unfold maxLen; omega⟩
  have lg := hc1.lt
  go_wp2_with fail
  refine (l5DrawC g A m c bs _ hcb).mono ?_
  rintro e w2 ⟨mir, gr, loss, xs, O, C, hxl, ht, rfl, ho2, hc2, hg2⟩
  have hne : w.heap.size ≠ g := by omega
  have HT := Lib.hid ht
  have O2 := Lib.hid ho2
  have z2 := hg2.size
  simp only [tumV]
  clear ht ho2 hW hb1 hcb hc1
  go_wp2_with fail
  refine (l1BelowC g A m c bs 20 _ (by omega) (by omega) hc2).mono ?_
  rintro e w3 ⟨N, hN, rfl, hc3, hg3⟩
  have hg23 := grown_trans hg2 hg3
  have q0 := ((gcell hg23).1 w.heap.size 0 (by omega) hne).trans q0
  have q1 := ((gcell hg23).1 w.heap.size 1 (by omega) hne).trans q1
  have q2 := ((gcell hg23).1 w.heap.size 2 (by omega) hne).trans q2
  have q3 := ((gcell hg23).1 w.heap.size 3 (by omega) hne).trans q3
  have f0 := frG f0 hg23 (by omega) (by intro e; injection e with e; omega)
  have B2 := below_of_grown hW1 hg23 (by omega)
  have O3 := Lib.hid (owns_grown O2.out hg3 (fun k hk => (by injection hk with hk; rw [← hk]; exact off_lt O2.out (by omega))))
  have z3 := hg3.size
  have f00 := f0 0
  have f01 := f0 1
  have f02 := f0 2
  have f03 := f0 3
  have lW : w.heap.size < w1.heap.size := by omega
  have lle : w.heap.size ≤ w1.heap.size := by omega
  clear hc2 hg2 hg3 hg23 hW1 hc3
  go_wp2
  exact bodyPost_ret (v := .tuple #[tumV mir gr loss (.slice O xs.length C), .int .i64 N]) (by simp [results, Try.results15, go_sem, tumV, q0, q1, q2, q3]) rfl ⟨mir, gr, loss, xs, O, C, N, by omega, hxl, HT.out, rfl, owns_mono (ownsRow_setCell_below (ownsRow_setCell_below (ownsRow_setCell_below (ownsRow_setCell_below O3.out lW _) lW _) lW _) lW _) lle, (((B2.setCell (Nat.le_refl _) _).setCell (Nat.le_refl _) _).setCell (Nat.le_refl _) _).setCell (Nat.le_refl _) _⟩
end Go.Proofs.Ytdjbpbolliphkaa
