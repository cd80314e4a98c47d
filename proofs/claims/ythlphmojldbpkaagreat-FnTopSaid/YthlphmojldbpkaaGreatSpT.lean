
/- l3Plus, InWedge, IsTumble, l5Copy: the specification's. -/
import Derived.Test.YthlphmojldbpkaaGreatM23
import Derived.Test.YthlphmojldbpkaaGreatM3
import Derived.Maps.AppendAt
import Derived.Deep.RegionHeld3
namespace Go.Proofs.YthlphmojldbpkaaGreat
open Go.RowKit
attribute [local go_sem] run_store_float run_store_complex

theorem specInWedge_yes (kind : Int) (p : Pt) (w : World) (h : wedgeB kind p = true) :
    Calls Tryz.prog 149 #[.int .i64 kind, .complex .f32 p.1 p.2] w fun e w' => e = .returned (.bool true) ∧ Dr w w' := by
  unfold wedgeB at h
  rw [Bool.and_eq_true] at h
  obtain ⟨h1, h2⟩ := h
  have h3 : sideS kind p = true := by rw [sideS_eq (point_fin h1)]; exact h2
  clear h2
  go_enter Tryz.func149, Tryz.ntmps149
  go_wp2_with fail
  (with_reducible refine (specIsPoint_any p.1 p.2 _).mono ?_)
  rw [h1]
  rintro e w' ⟨rfl, n, rfl⟩
  go_wp2_with fail
  (with_reducible refine (l1Wedge_any kind p _).mono ?_)
  rw [h3]
  rintro e w' ⟨rfl, rfl⟩
  go_wp2
  go_ret
  exact ⟨rfl, n, rfl⟩

set_option maxRecDepth 100000 in
set_option maxHeartbeats 4000000 in
theorem specIsTumble_yes (mir : Int) (gr : Pt) (loss : Nat) (A : Option Addr) (n c : Nat) (bs : List Bd) (w : World) (ht : tumB mir gr loss bs = true) (hn : n ≤ 8) (ha : Rd bdC 2 w w.heap.size A n bs) :
    Calls Tryz.prog 130 #[.agg #[.int .i64 mir, .complex .f32 gr.1 gr.2, .float .f32 loss, .slice A n c]] w fun e w' => e = .returned (.bool true) ∧ Below w.heap.size w w' := by
  obtain ⟨h1, h2, h3, h4, h5⟩ := tumB_parts.1 ht
  have HA := Lib.hid h5
  have hni : ¬ (8 : Int) < (n : Int) := by omega
  clear ht h4 h5
  go_enter Tryz.func130, Tryz.ntmps130
  go_wp2_with fail
  (with_reducible refine (l1In_any _ _ _ _).mono ?_)
  rw [h1]
  rintro e w' ⟨rfl, rfl⟩
  go_wp2_with fail
  (with_reducible refine (specIsPoint_any gr.1 gr.2 _).mono ?_)
  rw [h2]
  rintro e w' ⟨rfl, n1, rfl⟩
  go_wp2_with fail
  (with_reducible refine (l2Part_any _ _).mono ?_)
  rw [h3]
  rintro e w' ⟨rfl, n2, rfl⟩
  go_wp2_with fail
  obtain ⟨W, hWe⟩ : ∃ W, W = ((w.alloc (Obj.cells #[.int .i64 mir, .complex .f32 gr.1 gr.2, .float .f32 loss, .slice A n c] 31)).drewN (n1 + n2)) := ⟨_, rfl⟩
  have hW : Below w.heap.size w W := by rw [hWe]; exact below_drewN (by (repeat (first | with_reducible assumption | exact Below.refl _ _ | (refine Below.setCell ?_ (by first | exact Nat.le_refl _ | (simp; done) | omega | (simp; omega)) _) | (refine below_drewN ?_ _) | (refine Below.drew ?_) | (refine Below.alloc ?_ (by first | exact Nat.le_refl _ | (simp; done) | omega | (simp; omega)) _) | (refine then_ ?_ (by with_reducible assumption)) | assumption | (refine then_ ?_ (by assumption))))) _
  have c0 : W.cell? ⟨w.heap.size, 0, none⟩ = some (.int .i64 mir) := by rw [hWe]; show (w.alloc _).cell? _ = _; simp [go_sem]
  rw [← hWe]
  clear hWe
  go_loopw [30] (fun i wr => ∃ k : Nat, k ≤ n ∧ i = .int .i64 k ∧ Below W.heap.size W wr) (fun i _ => n - (intOf i).toNat)
  case atStart => exact ⟨0, Nat.zero_le _, rfl, Below.refl _ _⟩
  case round =>
    obtain ⟨k, hk, rfl, hw⟩ := hrel
    by_cases hlt : k < n
    · have hWr := then_ hW hw
      obtain ⟨bb, off, a, v, rfl, hbl, hx, x0, x1⟩ := (ha.step hWr).bd hlt
      have hki : (k : Int) < (n : Int) := by omega
      have hk0 : (0 : Int) ≤ (k : Int) := by omega
      have hok := List.all_eq_true.1 HA.out (a, v) (List.mem_of_getElem? hx)
      unfold okBd at hok
      rw [Bool.and_eq_true] at hok
      obtain ⟨o1, o2⟩ := hok
      dsimp only at o1 o2
      have d0 := keepC c0 hw
      have lr := World.block_lt_of_cell? _ _ d0
      dsimp only at lr
      have KI := Lib.hid (fun w => specInWedge_yes mir a w o1)
      have KP := Lib.hid (fun w => specIsPoint_any v.1 v.2 w)
      rw [o2] at KP
      clear hx o1 o2
      go_wp2_with fail
      (with_reducible refine (KI.out _).mono ?_)
      rintro e w' ⟨rfl, n3, rfl⟩
      go_wp2_with fail
      (with_reducible refine (KP.out _).mono ?_)
      rintro e w' ⟨rfl, n4, rfl⟩
      go_wp2
      go_roundw
      case rel =>
        refine ⟨k + 1, by omega, by go_num, ?_⟩
        exact below_drewN (hw.alloc hw.size _) _
      case measure => simp [intOf]; omega
    · obtain rfl : k = n := by omega
      go_wp2
      go_ret
      exact ⟨rfl, then_ hW hw⟩

set_option maxRecDepth 100000 in
set_option maxHeartbeats 4000000 in
theorem specCopy_any (mir : Int) (gr : Pt) (loss : Nat) (A : Option Addr) (n c : Nat) (bs : List Bd) (w : World) (hn : n ≤ 8) (ha : Rd bdC 2 w w.heap.size A n bs) :
    Calls Tryz.prog 97 #[.agg #[.int .i64 mir, .complex .f32 gr.1 gr.2, .float .f32 loss, .slice A n c]] w fun e w' => ∃ B d, e = .returned (.agg #[.int .i64 mir, .complex .f32 gr.1 gr.2, .float .f32 loss, .slice B n d]) ∧ w'.ownsRow w.heap.size 54 2 (.slice B n d) n (flat bdC bs) ∧ Below w.heap.size w w' := by
  obtain ⟨i0, hi, hz0, hz1, hz2⟩ := info_parts infoBd
  have hlen : (flat bdC bs).length = n * 2 := by rw [flat_length bdC_len, ha.1]
  go_enter Tryz.func97, Tryz.ntmps97
  go_upto_region 1 with fail
  obtain ⟨W, hWe⟩ : ∃ W, W = (w.alloc (Obj.cells #[.int .i64 mir, .complex .f32 gr.1 gr.2, .float .f32 loss, .slice A n c] 31)).alloc (Obj.cells #[.int .i64 0, .complex .f32 0 0, .float .f32 0, .slice none 0 0] 31) := ⟨_, rfl⟩
  have hW : Below w.heap.size w W := by rw [hWe]; (repeat (first | with_reducible assumption | exact Below.refl _ _ | (refine Below.setCell ?_ (by first | exact Nat.le_refl _ | (simp; done) | omega | (simp; omega)) _) | (refine below_drewN ?_ _) | (refine Below.drew ?_) | (refine Below.alloc ?_ (by first | exact Nat.le_refl _ | (simp; done) | omega | (simp; omega)) _) | (refine then_ ?_ (by with_reducible assumption)) | assumption | (refine then_ ?_ (by assumption))))
  have zW : W.heap.size = w.heap.size + 2 := by rw [hWe]; simp
  have CB : BoxT W w.heap.size mir gr loss (.slice A n c) := by rw [hWe]; exact ⟨by simp [go_sem], by simp [go_sem], by simp [go_sem], by simp [go_sem]⟩
  have cf : W.frozen? ⟨w.heap.size, 3, none⟩ = false := by rw [hWe]; simp [go_sem]
  have DB : BoxT W (w.heap.size + 1) 0 (0, 0) 0 (.slice none 0 0) := by rw [hWe]; exact ⟨by simp [go_sem], by simp [go_sem], by simp [go_sem], by simp [go_sem]⟩
  have df : ∀ j, W.frozen? ⟨w.heap.size + 1, j, none⟩ = false := by intro j; rw [hWe]; simp [go_sem]
  rw [← hWe]
  clear hWe
  have lb0 : w.heap.size < W.heap.size := by omega
  have lb1 : w.heap.size + 1 < W.heap.size := by omega
  have lle : w.heap.size ≤ W.heap.size := by omega
  have l1 : w.heap.size ≤ w.heap.size + 1 := by omega
  obtain ⟨W1, hW1⟩ : ∃ W1, W1 = W.alloc (Obj.cells #[] 54) := ⟨_, rfl⟩
  have bW1 : Below W.heap.size W W1 := by rw [hW1]; (repeat (first | with_reducible assumption | exact Below.refl _ _ | (refine Below.setCell ?_ (by first | exact Nat.le_refl _ | (simp; done) | omega | (simp; omega)) _) | (refine below_drewN ?_ _) | (refine Below.drew ?_) | (refine Below.alloc ?_ (by first | exact Nat.le_refl _ | (simp; done) | omega | (simp; omega)) _) | (refine then_ ?_ (by with_reducible assumption)) | assumption | (refine then_ ?_ (by assumption))))
  have o0 := Lib.hid (World.ownsRow_lit (base := W.heap.size) (size := 2) (e := 54) W #[] 0 (Nat.le_refl _) (by simp [maxLen]) rfl)
  rw [← hW1] at o0
  have r1 := Lib.hid (ha.step (then_ hW bW1))
  have CW := Lib.hid CB
  have DW := Lib.hid DB
  have DF := Lib.hid df
  have CF := Lib.hid cf
  cases A with
  | none =>
    have h0 : n = 0 := by
      rcases Nat.eq_zero_or_pos n with h | h
      · exact h
      · obtain ⟨b, off, e, _⟩ := ha.2 h; cases e
    subst h0
    have hb : bs = [] := List.eq_nil_of_length_eq_zero ha.1
    subst hb
    obtain ⟨c0, c1, c2, c3⟩ := CB
    obtain ⟨d0, d1, d2, d3⟩ := DB
    have f0 := df 0
    have f1 := df 1
    have f2 := df 2
    have f3 := df 3
    clear df ha
    go_wp2
    refine bodyPost_ret (v := .agg #[.int .i64 mir, .complex .f32 gr.1 gr.2, .float .f32 loss, .slice (some ⟨w.heap.size + 2, 0, none⟩) 0 0]) (by simp [results, Tryz.results97, go_sem, d0, d1, d2, d3, zW]) rfl ⟨_, _, rfl, ?_, ?_⟩
    · refine (show ∀ X : World, X.heap.size = w.heap.size + 2 → (X.alloc (Obj.cells #[] 54)).ownsRow w.heap.size 54 2 (.slice (some ⟨w.heap.size + 2, 0, none⟩) 0 0) 0 (flat bdC []) from fun X hX => ?_) _ (by simp [zW])
      have := World.ownsRow_lit (base := w.heap.size) (size := 2) (e := 54) X #[] 0 (by omega) (by simp [maxLen]) rfl
      rw [hX] at this
      exact this
    · exact (((((hW.setCell (Nat.le_refl _) _).setCell l1 _).setCell l1 _).setCell l1 _).setCell l1 _).alloc (by simp; omega) _
  | some ad =>
    obtain ⟨c0, c1, c2, c3⟩ := CB
    have ZW := Lib.hid zW
    clear zW DB df cf
    go_wp2_with (at_builtin; rw [← hW1]; refine wpList_append_own_at _ rfl _ _ 29 rfl W.heap.size 54 i0 (.agg #[.complex .f32 0 0, .complex .f32 0 0]) 2 16 Tryz.underlying29 hi hz0 hz1 hz2 rfl (by decide) _ _ _ rfl o0.out ad n c (flat bdC bs) rfl hlen (Rd.cells bdC_len (by omega) r1.out) (bdC_one bs) (by unfold maxLen; omega) (by omega) (by rw [hW1]; simp) ?_; intro v3 w3 hown3 hg3 hne3 hat3; have GB3 := Lib.hid hg3; have OW3 := Lib.hid hown3; clear hown3 hg3 hne3 hat3; obtain ⟨B3, d3, rfl⟩ := owns_slice OW3.out; have z3 := GB3.out.size; have zW1 := bW1.size; have B3' := (bW1.grown GB3.out bW1.size (fun k hk => (o0.out.lt k hk).1)); obtain ⟨c0, c1, c2, c3⟩ := CW.out.keep B3'; obtain ⟨d0, d1, d2, d3'⟩ := DW.out.keep B3'; have cf := keepF CW.out.2.2.2 CF.out B3'; have f0 := keepF DW.out.1 (DF.out 0) B3'; have f1 := keepF DW.out.2.1 (DF.out 1) B3'; have f2 := keepF DW.out.2.2.1 (DF.out 2) B3'; have f3 := keepF DW.out.2.2.2 (DF.out 3) B3'; have lx0 := World.block_lt_of_cell? _ _ c0; have lx1 := World.block_lt_of_cell? _ _ d0; dsimp only at lx0 lx1)
    have own := OW3.out
    rw [Nat.zero_add, List.nil_append] at own
    refine bodyPost_ret (v := .agg #[.int .i64 mir, .complex .f32 gr.1 gr.2, .float .f32 loss, .slice B3 n d3]) (by simp [results, Tryz.results97, go_sem, d0, d1, d2, d3']) rfl ⟨_, _, rfl, ?_, ?_⟩
    · exact owns_mono (ownsRow_setCell_below (ownsRow_setCell_below (ownsRow_setCell_below (ownsRow_setCell_below (ownsRow_setCell_below own lb0 _) lb1 _) lb1 _) lb1 _) lb1 _) lle
    · exact (((((then_ hW B3').setCell (Nat.le_refl _) _).setCell l1 _).setCell l1 _).setCell l1 _).setCell l1 _
end Go.Proofs.YthlphmojldbpkaaGreat
