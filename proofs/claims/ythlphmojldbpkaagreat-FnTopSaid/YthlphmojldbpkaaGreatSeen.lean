
/- SeenThrough: the program's, of valid glass. -/
import Derived.Test.YthlphmojldbpkaaGreatMix
import Derived.Deep.RegionLaw
import Derived.Deep.CutRange
import Derived.Test.YthlphmojldbpkaaGreatM3
namespace Go.Proofs.YthlphmojldbpkaaGreat
open Go.RowKit
attribute [local go_sem] run_store_float run_store_complex

theorem seenL_take {l : List Sh} {k : Nat} {s : Sh} (hx : l[k]? = some s) (p : Pt) (c : Col) : seenL (l.take (k + 1)) p c = if liesB s p then mixC (filtC (seenL (l.take k) p c) s.2.2.2.1) (seenL (l.take k) p c) s.2.2.2.2 else seenL (l.take k) p c := by
  have : l.take (k + 1) = l.take k ++ [s] := by
    rw [List.take_add_one, hx]; rfl
  rw [this, seenL_append]
theorem take_ok {l : List Sh} (h : l.all okSh = true) (k : Nat) : (l.take k).all okSh = true := by
  rw [List.all_eq_true] at h ⊢
  exact fun x hx => h x (List.mem_of_mem_take hx)

set_option maxRecDepth 100000 in
set_option maxHeartbeats 8000000 in
theorem seenThrough_yes (A : Option Addr) (n c : Nat) (ls : List Sh) (p : Pt) (r g l : Nat) (w : World) (hn : n ≤ 12) (hok : ls.all okSh = true) (hp : pointB p.1 p.2 = true) (hc : colB (r, g, l) = true) (ha : Rd shC 7 w w.heap.size A n ls) :
    Calls Tryz.prog 85 #[.slice A n c, .complex .f32 p.1 p.2, .agg #[.float .f32 r, .float .f32 g, .float .f32 l]] w fun e w' => e = .returned (.agg #[.float .f32 (seenL ls p (r, g, l)).1, .float .f32 (seenL ls p (r, g, l)).2.1, .float .f32 (seenL ls p (r, g, l)).2.2]) ∧ Below w.heap.size w w' := by
  have HL := Lib.hid ha.1
  have HOK := Lib.hid hok
  have HC := Lib.hid hc
  have KA := Lib.hid (fun w h => areShards_yes A n c ls w hn hok h)
  have KC := Lib.hid (fun w => isColour_any r g l w)
  rw [hc] at KC
  go_enter Tryz.func85, Tryz.ntmps85
  go_wp2_with fail
  obtain ⟨W, hWe⟩ : ∃ W, W = (w.alloc (Obj.cells #[.float .f32 r, .float .f32 g, .float .f32 l] 26)).alloc (Obj.cells #[.float .f32 0, .float .f32 0, .float .f32 0] 26) := ⟨_, rfl⟩
  have hW : Below w.heap.size w W := by rw [hWe]; (repeat (first | with_reducible assumption | exact Below.refl _ _ | (refine Below.setCell ?_ (by first | exact Nat.le_refl _ | (simp; done) | omega | (simp; omega)) _) | (refine below_drewN ?_ _) | (refine Below.drew ?_) | (refine Below.alloc ?_ (by first | exact Nat.le_refl _ | (simp; done) | omega | (simp; omega)) _) | (refine then_ ?_ (by with_reducible assumption)) | assumption | (refine then_ ?_ (by assumption))))
  have zW : W.heap.size = w.heap.size + 2 := by rw [hWe]; simp
  have c0 : W.cell? ⟨w.heap.size, 0, none⟩ = some (.float .f32 r) := by rw [hWe]; simp [go_sem]
  have c1 : W.cell? ⟨w.heap.size, 1, none⟩ = some (.float .f32 g) := by rw [hWe]; simp [go_sem]
  have c2 : W.cell? ⟨w.heap.size, 2, none⟩ = some (.float .f32 l) := by rw [hWe]; simp [go_sem]
  have cf : ∀ j, W.frozen? ⟨w.heap.size, j, none⟩ = false := by intro j; rw [hWe]; simp [go_sem]
  have r0 : W.cell? ⟨w.heap.size + 1, 0, none⟩ = some (.float .f32 0) := by rw [hWe]; simp [go_sem]
  have r1 : W.cell? ⟨w.heap.size + 1, 1, none⟩ = some (.float .f32 0) := by rw [hWe]; simp [go_sem]
  have r2 : W.cell? ⟨w.heap.size + 1, 2, none⟩ = some (.float .f32 0) := by rw [hWe]; simp [go_sem]
  have rf : ∀ j, W.frozen? ⟨w.heap.size + 1, j, none⟩ = false := by intro j; rw [hWe]; simp [go_sem]
  rw [← hWe]
  clear hWe
  (with_reducible refine (KA.out _ (ha.step hW)).mono ?_)
  rintro e w1 ⟨rfl, hb1⟩
  have c0 := keepC c0 hb1
  have c1 := keepC c1 hb1
  have c2 := keepC c2 hb1
  have l0 : w.heap.size < w1.heap.size := by have := hb1.size; omega
  go_wp2_with fail
  (with_reducible refine (isPoint_any p.1 p.2 _).mono ?_)
  rw [hp]
  rintro e w' ⟨rfl, rfl⟩
  go_wp2_with fail
  (with_reducible refine (KC.out _).mono ?_)
  rintro e w2 ⟨rfl, hb2⟩
  have hb := then_ hb1 hb2
  have c0 := keepC c0 hb2
  have c1 := keepC c1 hb2
  have c2 := keepC c2 hb2
  have cf : ∀ j, w2.frozen? ⟨w.heap.size, j, none⟩ = false := fun j => (hb.frozen (p := ⟨w.heap.size, j, none⟩) (show w.heap.size < W.heap.size by omega)).trans (cf j)
  have rf : ∀ j, w2.frozen? ⟨w.heap.size + 1, j, none⟩ = false := fun j => (hb.frozen (p := ⟨w.heap.size + 1, j, none⟩) (show w.heap.size + 1 < W.heap.size by omega)).trans (rf j)
  have r0 := keepC r0 hb
  have r1 := keepC r1 hb
  have r2 := keepC r2 hb
  have hW2 := then_ hW hb
  have l0 : w.heap.size < w2.heap.size := by have := hb.size; omega
  have l01 : w.heap.size ≤ w.heap.size + 1 := by omega
  have z2 : w.heap.size + 2 ≤ w2.heap.size := by have := hb.size; omega
  clear hb1 hb2 hb hW zW
  go_wp2_with fail
  go_loopw [25] (fun i wr => ∃ k : Nat, k ≤ n ∧ i = .int .i64 k ∧ wr.cell? ⟨w.heap.size, 0, none⟩ = some (.float .f32 (seenL (ls.take k) p (r, g, l)).1) ∧ wr.cell? ⟨w.heap.size, 1, none⟩ = some (.float .f32 (seenL (ls.take k) p (r, g, l)).2.1) ∧ wr.cell? ⟨w.heap.size, 2, none⟩ = some (.float .f32 (seenL (ls.take k) p (r, g, l)).2.2) ∧ (∀ j, wr.frozen? ⟨w.heap.size, j, none⟩ = false) ∧ wr.cell? ⟨w.heap.size + 1, 0, none⟩ = some (.float .f32 0) ∧ wr.cell? ⟨w.heap.size + 1, 1, none⟩ = some (.float .f32 0) ∧ wr.cell? ⟨w.heap.size + 1, 2, none⟩ = some (.float .f32 0) ∧ (∀ j, wr.frozen? ⟨w.heap.size + 1, j, none⟩ = false) ∧ w2.heap.size ≤ wr.heap.size ∧ Below w.heap.size w wr) (fun i _ => n - (intOf i).toNat)
  case atStart => exact ⟨0, Nat.zero_le _, rfl, c0, c1, c2, cf, r0, r1, r2, rf, Nat.le_refl _, hW2⟩
  case round =>
    clear c0 c1 c2 cf r0 r1 r2 rf hW2
    obtain ⟨k, hk, rfl, c0, c1, c2, cf, r0, r1, r2, rf, hsz, hw⟩ := hrel
    have l0 : w.heap.size < wr.heap.size := by omega
    have l1 : w.heap.size + 1 < wr.heap.size := by omega
    by_cases hlt : k < n
    · obtain ⟨bb, off, a, b, d, sr, sg, sl, sq, rfl, hbl, hx, x0, x1, x2, x3, x4, x5, x6⟩ := (ha.step hw).sh hlt
      have hki : (k : Int) < (n : Int) := by omega
      have hk0 : (0 : Int) ≤ (k : Int) := by omega
      have hs := List.all_eq_true.1 HOK.out _ (List.mem_of_getElem? hx)
      have ST := Lib.hid (seenL_take hx p (r, g, l))
      obtain ⟨h1, h2, h3, h4, h5⟩ := okSh_parts hs
      dsimp only at h4 h5 ST
      have hcc := seen_col (take_ok HOK.out k) (p := p) HC.out
      have KL := Lib.hid (fun w => lies_yes a b d sr sg sl sq p w hs hp)
      generalize seenL (ls.take k) p (r, g, l) = cc at c0 c1 c2 ST hcc
      obtain ⟨u, v, y⟩ := cc
      dsimp only at c0 c1 c2
      have KF := Lib.hid (fun w => filter_yes u v y sr sg sl w hcc h4)
      have hf := filtC_col hcc h4
      generalize filtC (u, v, y) (sr, sg, sl) = ff at KF ST hf
      obtain ⟨u1, v1, y1⟩ := ff
      dsimp only at KF
      have KM := Lib.hid (fun w => mix_yes u1 v1 y1 u v y sq w hf hcc h5)
      generalize mixC (u1, v1, y1) (u, v, y) sq = mm at KM ST
      obtain ⟨u2, v2, y2⟩ := mm
      dsimp only at KM
      clear hx hs h1 h2 h3 h4 h5 hcc hf
      go_wp2_with fail
      obtain ⟨X, hXe⟩ : ∃ X, X = wr.alloc (Obj.cells #[.complex .f32 a.1 a.2, .complex .f32 b.1 b.2, .complex .f32 d.1 d.2, .float .f32 sr, .float .f32 sg, .float .f32 sl, .float .f32 sq] 36) := ⟨_, rfl⟩
      have hX : Below wr.heap.size wr X := by rw [hXe]; (repeat (first | with_reducible assumption | exact Below.refl _ _ | (refine Below.setCell ?_ (by first | exact Nat.le_refl _ | (simp; done) | omega | (simp; omega)) _) | (refine below_drewN ?_ _) | (refine Below.drew ?_) | (refine Below.alloc ?_ (by first | exact Nat.le_refl _ | (simp; done) | omega | (simp; omega)) _) | (refine then_ ?_ (by with_reducible assumption)) | assumption | (refine then_ ?_ (by assumption))))
      have s3 : X.cell? ⟨wr.heap.size, 3, none⟩ = some (.float .f32 sr) := by rw [hXe]; simp [go_sem]
      have s4 : X.cell? ⟨wr.heap.size, 4, none⟩ = some (.float .f32 sg) := by rw [hXe]; simp [go_sem]
      have s5 : X.cell? ⟨wr.heap.size, 5, none⟩ = some (.float .f32 sl) := by rw [hXe]; simp [go_sem]
      have s6 : X.cell? ⟨wr.heap.size, 6, none⟩ = some (.float .f32 sq) := by rw [hXe]; simp [go_sem]
      rw [← hXe]
      clear hXe
      (with_reducible refine (KL.out _).mono ?_)
      cases hl : liesB (a, b, d, (sr, sg, sl), sq) p
      · rintro e w5 ⟨rfl, hb5⟩
        have ST2 := Lib.hid (ST.out.trans (by rw [hl]; rfl : _ = (u, v, y)))
        have hX5 := then_ hX hb5
        have z5 := hX5.size
        have hw5 := then_ hw hX5
        have c0 := keepC c0 hX5
        have c1 := keepC c1 hX5
        have c2 := keepC c2 hX5
        have r0 := keepC r0 hX5
        have r1 := keepC r1 hX5
        have r2 := keepC r2 hX5
        have cf := fun j => (hX5.frozen (p := ⟨w.heap.size, j, none⟩) l0).trans (cf j)
        have rf := fun j => (hX5.frozen (p := ⟨w.heap.size + 1, j, none⟩) l1).trans (rf j)
        clear hb5 hX x0 x1 x2 x3 x4 x5 x6 s3 s4 s5 s6
        go_wp2
        go_roundw
        case rel => exact ⟨k + 1, by omega, by go_num, by rw [ST2.out]; exact c0, by rw [ST2.out]; exact c1, by rw [ST2.out]; exact c2, cf, r0, r1, r2, rf, by omega, hw5⟩
        case measure => simp [intOf]; omega
      · rintro e w5 ⟨rfl, hb5⟩
        have ST2 := Lib.hid (ST.out.trans (by rw [hl]; rfl : _ = (u2, v2, y2)))
        have hX5 := then_ hX hb5
        have z5 := hX5.size
        have hw5 := then_ hw hX5
        have c0 := keepC c0 hX5
        have c1 := keepC c1 hX5
        have c2 := keepC c2 hX5
        have r0 := keepC r0 hX5
        have r1 := keepC r1 hX5
        have r2 := keepC r2 hX5
        have s3 := keepC s3 hb5
        have s4 := keepC s4 hb5
        have s5 := keepC s5 hb5
        have s6 := keepC s6 hb5
        have cf := fun j => (hX5.frozen (p := ⟨w.heap.size, j, none⟩) l0).trans (cf j)
        have rf := fun j => (hX5.frozen (p := ⟨w.heap.size + 1, j, none⟩) l1).trans (rf j)
        have l05 : w.heap.size < w5.heap.size := by omega
        have l15 : w.heap.size + 1 < w5.heap.size := by omega
        have lw5 : wr.heap.size < w5.heap.size := World.block_lt_of_cell? _ _ s3
        clear hb5 hX x0 x1 x2 x3 x4 x5 x6
        go_wp2_with fail
        go_region_law ((first
          | (go_simp; go_at_call 114; (with_reducible refine (KF.out _).mono ?_); rintro e w6 ⟨rfl, hb6⟩; have hB6 := (show Below w5.heap.size w5 w6 by (repeat (first | with_reducible assumption | exact Below.refl _ _ | (refine Below.setCell ?_ (by first | exact Nat.le_refl _ | (simp; done) | omega | (simp; omega)) _) | (refine below_drewN ?_ _) | (refine Below.drew ?_) | (refine Below.alloc ?_ (by first | exact Nat.le_refl _ | (simp; done) | omega | (simp; omega)) _) | (refine then_ ?_ (by with_reducible assumption)) | assumption | (refine then_ ?_ (by assumption))))); have c0 := keepC c0 hB6; have c1 := keepC c1 hB6; have c2 := keepC c2 hB6; have s3 := keepC s3 hB6; have s6 := keepC s6 hB6; have l06 := (show w.heap.size < w6.heap.size from World.block_lt_of_cell? _ _ c0); have lw6 := (show wr.heap.size < w6.heap.size from World.block_lt_of_cell? _ _ s3))
          | (go_simp; go_at_call 113; (with_reducible refine (KM.out _).mono ?_); rintro e w7 ⟨rfl, hb7⟩; have hB7 := (show Below w5.heap.size w5 w7 by (repeat (first | with_reducible assumption | exact Below.refl _ _ | (refine Below.setCell ?_ (by first | exact Nat.le_refl _ | (simp; done) | omega | (simp; omega)) _) | (refine below_drewN ?_ _) | (refine Below.drew ?_) | (refine Below.alloc ?_ (by first | exact Nat.le_refl _ | (simp; done) | omega | (simp; omega)) _) | (refine then_ ?_ (by with_reducible assumption)) | assumption | (refine then_ ?_ (by assumption))))); have c0 := keepC c0 hb7; have c1 := keepC c1 hb7; have c2 := keepC c2 hb7; have f0 := (hB7.frozen (p := ⟨w.heap.size, 0, none⟩) l05).trans (cf 0); have f1 := (hB7.frozen (p := ⟨w.heap.size, 1, none⟩) l05).trans (cf 1); have f2 := (hB7.frozen (p := ⟨w.heap.size, 2, none⟩) l05).trans (cf 2); have l07 := (show w.heap.size < w7.heap.size from World.block_lt_of_cell? _ _ c0))))
        all_goals
          have l17 : w.heap.size + 1 < w7.heap.size := by have := hB7.size; omega
          have rr0 := keepC r0 hB7
          have rr1 := keepC r1 hB7
          have rr2 := keepC r2 hB7
          have rrf := frB rf hB7 l15
          have ccf := frB cf hB7 l05
          have n10 : ¬ w.heap.size + 1 = w.heap.size := by omega
          have hSS := holdSet (holdSet (holdSet (gs := w.heap.size) (W := w7) (B := w7.heap.size) (fun _ _ _ _ => rfl) 0 (.float .f32 u2)) 1 (.float .f32 v2)) 2 (.float .f32 y2)
          clear s3 s4 s5 s6 r0 r1 r2 rf cf
          go_wp2
          go_roundw
          case rel => exact ⟨k + 1, by omega, by go_num, by rw [ST2.out]; simp [go_sem, c0], by rw [ST2.out]; simp [go_sem, c1], by rw [ST2.out]; simp [go_sem, c2], frS (frS (frS ccf _ _) _ _) _ _, (hSS _ 0 l17 n10).trans rr0, (hSS _ 1 l17 n10).trans rr1, (hSS _ 2 l17 n10).trans rr2, frS (frS (frS rrf _ _) _ _) _ _, by simp; have := hB7.size; omega, (((then_ hw5 hB7).setCell (Nat.le_refl _) _).setCell (Nat.le_refl _) _).setCell (Nat.le_refl _) _⟩
          case measure => simp [intOf]; omega
    · obtain rfl : k = n := by omega
      have hend : ls.take k = ls := by rw [← HL.out]; exact List.take_length
      rw [hend] at c0 c1 c2
      obtain ⟨cc, hcc⟩ : ∃ cc, cc = seenL ls p (r, g, l) := ⟨_, rfl⟩
      rw [← hcc] at c0 c1 c2
      have HCC := Lib.hid hcc
      obtain ⟨u, v, y⟩ := cc
      dsimp only at c0 c1 c2
      clear hcc
      have f0 := rf 0
      have f1 := rf 1
      have f2 := rf 2
      have n1 : ¬ w.heap.size = w.heap.size + 1 := by omega
      go_wp2
      refine bodyPost_ret (v := .agg #[.float .f32 u, .float .f32 v, .float .f32 y]) (by simp [results, Tryz.results85, go_sem, r0, r1, r2]) rfl ⟨by rw [← HCC.out], ?_⟩
      exact ((hw.setCell l01 _).setCell l01 _).setCell l01 _
end Go.Proofs.YthlphmojldbpkaaGreat
