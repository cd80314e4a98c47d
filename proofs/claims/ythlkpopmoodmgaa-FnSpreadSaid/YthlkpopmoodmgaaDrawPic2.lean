
/- DrawPicture. -/
import Derived.Test.YthlkpopmoodmgaaDrawPic
namespace Go.Proofs.Ythlkpopmoodmgaa
open Go.RowKit
attribute [local go_sem] run_store_float run_store_complex

set_option maxHeartbeats 1000000 in
theorem drawPicture_any (A : Option Addr) (m c : Nat) (bs : List Int) (w : World) (hm : m ≤ 4096) (hr : Rd byteC 1 w w.heap.size A m bs) (hb : ∀ x ∈ bs, 0 ≤ x ∧ x ≤ 255) :
    Calls Try.prog 40 #[.slice A m c] w fun e w' => ∃ (q : Nat) (xs : List Col) (O : Option Addr) (C : Nat), q < 5 ∧ Pic q xs ∧ e = .returned (.agg #[.int .i64 ((q : Int) + 1), .slice O xs.length C]) ∧ Rd colC 3 w' w'.heap.size O xs.length xs ∧ Below w.heap.size w w' := by
  go_enter Try.func40, Try.ntmps40
  go_wp2_with fail
  obtain ⟨W, hWe⟩ : ∃ W, W = w.alloc (Obj.cells #[.int .i64 0, .slice none 0 0] 29) := ⟨_, rfl⟩
  have hW : Below w.heap.size w W := by rw [hWe]; (repeat (first | with_reducible assumption | exact Below.refl _ _ | (refine Below.setCell ?_ (by first | exact Nat.le_refl _ | (simp; done) | omega | (simp; omega)) _) | (refine below_drewN ?_ _) | (refine Below.drew ?_) | (refine Below.alloc ?_ (by first | exact Nat.le_refl _ | (simp; done) | omega | (simp; omega)) _) | (refine then_ ?_ (by with_reducible assumption)) | assumption | (refine then_ ?_ (by assumption))))
  have zW : w.heap.size < W.heap.size := by rw [hWe]; simp
  have q0 : W.cell? ⟨w.heap.size, 0, none⟩ = some (.int .i64 0) := by rw [hWe]; simp [go_sem]
  have q1 : W.cell? ⟨w.heap.size, 1, none⟩ = some (.slice none 0 0) := by rw [hWe]; simp [go_sem]
  have f0 : ∀ j, W.frozen? ⟨w.heap.size, j, none⟩ = false := by intro j; rw [hWe]; simp [go_sem]
  rw [← hWe]
  clear hWe
  refine (l1New_any A m c bs _ hm (hr.step hW)).mono ?_
  rintro e w1 ⟨g, rfl, hg, hc1, hb1⟩
  have q0 := keepC q0 hb1
  have q1 := keepC q1 hb1
  have f0 := frB f0 hb1 zW
  have hW1 := then_ hW hb1
  have z1 := hW1.size
  have hcb : CurB w1 g A m c bs := ⟨hc1, (hr.below hW1).more (by omega), hc1.lt, hb, by unfold maxLen; omega⟩
  have lg := hc1.lt
  go_wp2_with fail
  refine (l4DrawC g A m c bs _ hcb).mono ?_
  rintro e w2 ⟨q, xs, O, C, hq, hp, rfl, ho2, hc2, hg2⟩
  have hne : w.heap.size ≠ g := by omega
  have q0 := ((gcell hg2).1 w.heap.size 0 (by omega) hne).trans q0
  have q1 := ((gcell hg2).1 w.heap.size 1 (by omega) hne).trans q1
  have f0 := frG f0 hg2 (by omega) (by intro e; injection e with e; omega)
  have B2 := below_of_grown hW1 hg2 (by omega)
  have z2 := hg2.size
  have f00 := f0 0
  have f01 := f0 1
  have HP := Lib.hid hp
  have O2 := Lib.hid ho2
  clear hW hb1 hW1 hcb hc1 hc2 hg2 hp ho2
  go_wp2
  exact bodyPost_ret (v := .agg #[.int .i64 ((q : Int) + 1), .slice O xs.length C]) (by simp [results, Try.results40, go_sem, *]) rfl ⟨q, xs, O, C, hq, HP.out, rfl, Rd.of_own colC_len rfl (ownsRow_setCell_below (ownsRow_setCell_below O2.out (by show w.heap.size < _; omega) _) (by show w.heap.size < _; omega) _), (B2.setCell (Nat.le_refl _) _).setCell (Nat.le_refl _) _⟩
end Go.Proofs.Ythlkpopmoodmgaa
