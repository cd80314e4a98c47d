
/- EnergyOf: the program's, of a valid tumble. -/
import Derived.Test.YtdjbpbolliphkaaTumE
namespace Go.Proofs.Ytdjbpbolliphkaa
open Go.RowKit
attribute [local go_sem] run_store_float run_store_complex

set_option maxRecDepth 100000 in
set_option maxHeartbeats 4000000 in
theorem energy_any (mir : Int) (gr : Pt) (loss : Nat) (A : Option Addr) (n c : Nat) (bs : List Bd) (w : World) (ht : tumB mir gr loss bs = true) (hn : n ≤ 8) (ha : Rd bdC 2 w w.heap.size A n bs) :
    Calls Try.prog 21 #[.agg #[.int .i64 mir, .complex .f32 gr.1 gr.2, .float .f32 loss, .slice A n c]] w fun e w' => (∃ x, small x ∧ e = .returned (.float .f32 x)) ∧ Below w.heap.size w w' := by
  have HA := Lib.hid (tumB_parts.1 ht).2.2.2.2
  go_enter Try.func21, Try.ntmps21
  go_wp2_with fail
  obtain ⟨W, hWe⟩ : ∃ W, W = w.alloc (Obj.cells #[.int .i64 mir, .complex .f32 gr.1 gr.2, .float .f32 loss, .slice A n c] 37) := ⟨_, rfl⟩
  have hW : Below w.heap.size w W := by rw [hWe]; (repeat (first | with_reducible assumption | exact Below.refl _ _ | (refine Below.setCell ?_ (by first | exact Nat.le_refl _ | (simp; done) | omega | (simp; omega)) _) | (refine below_drewN ?_ _) | (refine Below.drew ?_) | (refine Below.alloc ?_ (by first | exact Nat.le_refl _ | (simp; done) | omega | (simp; omega)) _) | (refine then_ ?_ (by with_reducible assumption)) | assumption | (refine then_ ?_ (by assumption))))
  have CB : BoxT W w.heap.size mir gr loss (.slice A n c) := by rw [hWe]; exact boxT_new _ _ _ _ _ _
  rw [← hWe]
  clear hWe
  refine (isTumble_any mir gr loss A n c bs _ hn (ha.step hW)).mono ?_
  rw [ht]
  rintro e w1 ⟨rfl, hb1⟩
  have hW1 := then_ hW hb1
  have CB := CB.keep hb1
  have lC := CB.lt
  obtain ⟨c0, c1, c2, c3⟩ := id CB
  clear hW hb1
  go_wp2_with fail
  go_loopw [3, 12] (fun x i wr => ∃ (k : Nat) (e : Nat), k ≤ n ∧ x = .float .f32 e ∧ i = .int .i64 k ∧ small e ∧ Below w.heap.size w wr) (fun _ i _ => n - (intOf i).toNat)
  case atStart => exact ⟨0, 0, Nat.zero_le _, rfl, rfl, by show (0 : Nat) < 2139095040; omega, hW1⟩
  case round =>
    obtain ⟨k, e, hk, rfl, rfl, he, hw⟩ := hrel
    have HE := Lib.hid he
    clear he
    by_cases hlt : k < n
    · obtain ⟨bb, off, a, v, rfl, hbl, hx, x0, x1⟩ := (ha.step hw).bd hlt
      have hki : (k : Int) < (n : Int) := by omega
      have hk0 : (0 : Int) ≤ (k : Int) := by omega
      have fv := (ok_fin (List.all_eq_true.1 HA.out (a, v) (List.mem_of_getElem? hx))).2
      dsimp only at fv
      obtain ⟨s1, hs1⟩ : ∃ s, s = mulB v.1 v.1 := ⟨_, rfl⟩
      obtain ⟨s2, hs2⟩ : ∃ s, s = mulB v.2 v.2 := ⟨_, rfl⟩
      have kt1 := fun w => times_any v.1 v.1 w
      have kt2 := fun w => times_any v.2 v.2 w
      rw [← hs1] at kt1
      rw [← hs2] at kt2
      have q1 : small s1 := by rw [hs1]; exact square_small fv.1
      have q2 : small s2 := by rw [hs2]; exact square_small fv.2
      obtain ⟨e1, he1⟩ : ∃ e1, e1 = addB e s1 := ⟨_, rfl⟩
      obtain ⟨e2, he2⟩ : ∃ e2, e2 = addB e1 s2 := ⟨_, rfl⟩
      have ks1 := fun w => sum_any e s1 w
      have ks2 := fun w => sum_any e1 s2 w
      rw [← he1] at ks1
      rw [← he2] at ks2
      have Q := Lib.hid (show small e2 by rw [he2]; exact sum_small (by rw [he1]; exact sum_small HE.out q1) q2)
      have KT1 := Lib.hid kt1
      have KT2 := Lib.hid kt2
      have KS1 := Lib.hid ks1
      have KS2 := Lib.hid ks2
      clear kt1 kt2 ks1 ks2 q1 q2 hs1 hs2 he1 he2 hx fv c0 c1 c2 c3
      go_wp2_with (first
        | (go_at_call 50; (with_reducible refine (KT1.out _).mono ?_); rintro e w' ⟨rfl, n1, rfl⟩)
        | (go_at_call 50; (with_reducible refine (KT2.out _).mono ?_); rintro e w' ⟨rfl, n2, rfl⟩)
        | (go_at_call 49; (with_reducible refine (KS1.out _).mono ?_); rintro e w' ⟨rfl, n3, rfl⟩)
        | (go_at_call 49; (with_reducible refine (KS2.out _).mono ?_); rintro e w' ⟨rfl, n4, rfl⟩))
      go_roundw
      case rel => exact ⟨k + 1, e2, by omega, rfl, by go_num, Q.out, below_drewN (hw.alloc hw.size _) _⟩
      case measure => simp [intOf]; omega
    · obtain rfl : k = n := by omega
      go_wp2
      go_ret
      exact ⟨⟨e, HE.out, rfl⟩, hw⟩
end Go.Proofs.Ytdjbpbolliphkaa
