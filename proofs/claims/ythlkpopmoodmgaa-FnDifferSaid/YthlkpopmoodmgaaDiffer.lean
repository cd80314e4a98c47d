
/- DifferOf, both versions. -/
import Derived.Test.YthlkpopmoodmgaaFar2
import Derived.Test.YthlkpopmoodmgaaIsPic
import Derived.Test.YthlkpopmoodmgaaSEq
namespace Go.Proofs.Ythlkpopmoodmgaa
open Go.RowKit
attribute [local go_sem] run_store_float run_store_complex

def dStep (s : Int × Nat) (p : Col × Col) : Int × Nat := if colEqB p.1 p.2 then s else (s.1 + 1, maxB s.2 (farB p.1 p.2))
def dS (xs ys : List Col) (k : Nat) : Int × Nat := ((xs.zip ys).take k).foldl dStep (0, 0)
def differ (s1 : Int) (xs : List Col) (s2 : Int) (ys : List Col) : Int × Nat := if pictB s1 xs && pictB s2 ys && s1 == s2 then dS xs ys xs.length else (-1, 0)
theorem dS_succ {xs ys : List Col} {k : Nat} {x y : Col} (hx : xs[k]? = some x) (hy : ys[k]? = some y) : dS xs ys (k + 1) = dStep (dS xs ys k) (x, y) := by
  unfold dS
  have hz : (xs.zip ys)[k]? = some (x, y) := by
    rw [List.getElem?_zip_eq_some]; exact ⟨hx, hy⟩
  rw [List.take_add_one, hz, List.foldl_append]
  rfl
theorem farB_nn (a b : Col) : farB a b < 2139095040 := by
  unfold farB
  split
  · rename_i h
    simp only [Bool.and_eq_true] at h
    have f1 := col_fin h.1
    have f2 := col_fin h.2
    exact maxB_nn (maxB_nn (farP_nn f1.1 f2.1) (farP_nn f1.2.1 f2.2.1)) (farP_nn f1.2.2 f2.2.2)
  · omega
theorem dS_nn (xs ys : List Col) (k : Nat) : (dS xs ys k).2 < 2139095040 := by
  unfold dS
  generalize (xs.zip ys).take k = l
  have : ∀ (l : List (Col × Col)) (s : Int × Nat), s.2 < 2139095040 → (l.foldl dStep s).2 < 2139095040 := by
    intro l
    induction l with
    | nil => intro s h; exact h
    | cons p l ih =>
      intro s h
      refine ih _ ?_
      unfold dStep
      split
      · exact h
      · exact maxB_nn h (farB_nn _ _)
  exact this l _ (by decide)
theorem dS_bd (xs ys : List Col) (k : Nat) : 0 ≤ (dS xs ys k).1 ∧ (dS xs ys k).1 ≤ k := by
  unfold dS
  have : ∀ (l : List (Col × Col)) (s : Int × Nat), s.1 ≤ (l.foldl dStep s).1 ∧ (l.foldl dStep s).1 ≤ s.1 + l.length := by
    intro l
    induction l with
    | nil => intro s; simp
    | cons p l ih =>
      intro s
      have h := ih (dStep s p)
      have : s.1 ≤ (dStep s p).1 ∧ (dStep s p).1 ≤ s.1 + 1 := by unfold dStep; split <;> constructor <;> first | omega | (simp; done) | (simp; omega)
      simp only [List.foldl_cons, List.length_cons]
      omega
  have h := this ((xs.zip ys).take k) (0, 0)
  have hl : ((xs.zip ys).take k).length ≤ k := List.length_take_le _ _
  simp only at h
  omega

theorem startSN (W : World) (n : Nat) : (∀ b o, b < W.heap.size → (W.drewN n).drew.cell? ⟨b, o, none⟩ = W.cell? ⟨b, o, none⟩) ∧ Below W.heap.size W (W.drewN n).drew := ⟨fun _ _ _ => rfl, (below_drewN (Below.refl _ _) n).drew⟩
theorem pict_eq {s : Int} {xs : List Col} (h : pictB s xs = true) : xs.length ≤ 64 ∧ 1 ≤ s ∧ s ≤ 8 ∧ (xs.length : Int) = s * s := by
  unfold pictB at h
  simp only [Bool.and_eq_true, beq_iff_eq] at h
  obtain ⟨h1, h2, h3⟩ := h
  obtain ⟨b1, b2⟩ := inB_true h1
  have b3 : s * s ≤ 8 * 8 := Int.mul_le_mul b2 b2 (by omega) (by omega)
  exact ⟨by omega, b1, b2, h2⟩

set_option maxRecDepth 100000 in
set_option maxHeartbeats 8000000 in
theorem differOf_any (A B : Option Addr) (s1 s2 : Int) (n m c d : Nat) (xs ys : List Col) (w : World) (hn : n ≤ maxLen) (hm : m ≤ maxLen) (ha : Rd colC 3 w w.heap.size A n xs) (hb : Rd colC 3 w w.heap.size B m ys) :
    Calls Try.prog 25 #[.agg #[.int .i64 s1, .slice A n c], .agg #[.int .i64 s2, .slice B m d]] w fun e w' => e = .returned (.tuple #[.int .i64 (differ s1 xs s2 ys).1, .float .f32 (differ s1 xs s2 ys).2]) ∧ Below w.heap.size w w' := by
  cases h1 : pictB s1 xs
  · have R := Lib.hid (show differ s1 xs s2 ys = (-1, 0) by simp [differ, h1])
    go_enter Try.func25, Try.ntmps25
    go_wp2_with (go_at_call 17; refine (isPicture_any s1 A n c xs _ hn (ha.step ?_)).mono ?_; (repeat (first | with_reducible assumption | exact Below.refl _ _ | (refine Below.setCell ?_ (by first | exact Nat.le_refl _ | (simp; done) | omega | (simp; omega)) _) | (refine below_drewN ?_ _) | (refine Below.drew ?_) | (refine Below.alloc ?_ (by first | exact Nat.le_refl _ | (simp; done) | omega | (simp; omega)) _) | (refine then_ ?_ (by with_reducible assumption)) | assumption | (refine then_ ?_ (by assumption)))); rintro e w1 ⟨rfl, hb1⟩; simp only [h1])
    go_ret2
    exact ⟨by rw [R.out]; rfl, by (repeat (first | with_reducible assumption | exact Below.refl _ _ | (refine Below.setCell ?_ (by first | exact Nat.le_refl _ | (simp; done) | omega | (simp; omega)) _) | (refine below_drewN ?_ _) | (refine Below.drew ?_) | (refine Below.alloc ?_ (by first | exact Nat.le_refl _ | (simp; done) | omega | (simp; omega)) _) | (refine then_ ?_ (by with_reducible assumption)) | assumption | (refine then_ ?_ (by assumption))))⟩
  · cases h2 : pictB s2 ys
    · have R := Lib.hid (show differ s1 xs s2 ys = (-1, 0) by simp [differ, h2])
      go_enter Try.func25, Try.ntmps25
      go_wp2_with (first
        | (go_at_call 17; (with_reducible refine (isPicture_any s1 A n c xs _ hn (ha.step ?_)).mono ?_); (repeat (first | with_reducible assumption | exact Below.refl _ _ | (refine Below.setCell ?_ (by first | exact Nat.le_refl _ | (simp; done) | omega | (simp; omega)) _) | (refine below_drewN ?_ _) | (refine Below.drew ?_) | (refine Below.alloc ?_ (by first | exact Nat.le_refl _ | (simp; done) | omega | (simp; omega)) _) | (refine then_ ?_ (by with_reducible assumption)) | assumption | (refine then_ ?_ (by assumption)))); rintro e w1 ⟨rfl, hb1⟩; simp only [h1]; have kc_0 := keepC (p := ⟨w.heap.size, 0, none⟩) (v := .int .i64 s1) (by first | assumption | (simp [go_sem]; done) | (simp [go_sem, *]; done)) hb1; have kc_1 := keepC (p := ⟨w.heap.size, 1, none⟩) (v := .slice A n c) (by first | assumption | (simp [go_sem]; done) | (simp [go_sem, *]; done)) hb1; have lb_ := (show w.heap.size < _ from World.block_lt_of_cell? _ _ kc_0); have kc1_0 := keepC (p := ⟨w.heap.size + 1, 0, none⟩) (v := .int .i64 s2) (by first | assumption | (simp [go_sem]; done) | (simp [go_sem, *]; done)) hb1; have kc1_1 := keepC (p := ⟨w.heap.size + 1, 1, none⟩) (v := .slice B m d) (by first | assumption | (simp [go_sem]; done) | (simp [go_sem, *]; done)) hb1; have lb1_ := (show w.heap.size + 1 < _ from World.block_lt_of_cell? _ _ kc1_0))
        | (go_at_call 17; (with_reducible refine (isPicture_any s2 B m d ys _ hm (hb.step ?_)).mono ?_); (repeat (first | with_reducible assumption | exact Below.refl _ _ | (refine Below.setCell ?_ (by first | exact Nat.le_refl _ | (simp; done) | omega | (simp; omega)) _) | (refine below_drewN ?_ _) | (refine Below.drew ?_) | (refine Below.alloc ?_ (by first | exact Nat.le_refl _ | (simp; done) | omega | (simp; omega)) _) | (refine then_ ?_ (by with_reducible assumption)) | assumption | (refine then_ ?_ (by assumption)))); rintro e w2 ⟨rfl, hb2⟩; simp only [h2]))
      go_ret2
      exact ⟨by rw [R.out]; rfl, by (repeat (first | with_reducible assumption | exact Below.refl _ _ | (refine Below.setCell ?_ (by first | exact Nat.le_refl _ | (simp; done) | omega | (simp; omega)) _) | (refine below_drewN ?_ _) | (refine Below.drew ?_) | (refine Below.alloc ?_ (by first | exact Nat.le_refl _ | (simp; done) | omega | (simp; omega)) _) | (refine then_ ?_ (by with_reducible assumption)) | assumption | (refine then_ ?_ (by assumption))))⟩
    · cases h3 : (s1 == s2)
      · have R := Lib.hid (show differ s1 xs s2 ys = (-1, 0) by simp [differ, h3])
        have h3' : (s1 != s2) = true := by rw [bne, h3]; rfl
        clear h3
        go_enter Try.func25, Try.ntmps25
        go_wp2_with (first
          | (go_at_call 17; (with_reducible refine (isPicture_any s1 A n c xs _ hn (ha.step ?_)).mono ?_); (repeat (first | with_reducible assumption | exact Below.refl _ _ | (refine Below.setCell ?_ (by first | exact Nat.le_refl _ | (simp; done) | omega | (simp; omega)) _) | (refine below_drewN ?_ _) | (refine Below.drew ?_) | (refine Below.alloc ?_ (by first | exact Nat.le_refl _ | (simp; done) | omega | (simp; omega)) _) | (refine then_ ?_ (by with_reducible assumption)) | assumption | (refine then_ ?_ (by assumption)))); rintro e w1 ⟨rfl, hb1⟩; simp only [h1]; have kc_0 := keepC (p := ⟨w.heap.size, 0, none⟩) (v := .int .i64 s1) (by first | assumption | (simp [go_sem]; done) | (simp [go_sem, *]; done)) hb1; have kc_1 := keepC (p := ⟨w.heap.size, 1, none⟩) (v := .slice A n c) (by first | assumption | (simp [go_sem]; done) | (simp [go_sem, *]; done)) hb1; have lb_ := (show w.heap.size < _ from World.block_lt_of_cell? _ _ kc_0); have kc1_0 := keepC (p := ⟨w.heap.size + 1, 0, none⟩) (v := .int .i64 s2) (by first | assumption | (simp [go_sem]; done) | (simp [go_sem, *]; done)) hb1; have kc1_1 := keepC (p := ⟨w.heap.size + 1, 1, none⟩) (v := .slice B m d) (by first | assumption | (simp [go_sem]; done) | (simp [go_sem, *]; done)) hb1; have lb1_ := (show w.heap.size + 1 < _ from World.block_lt_of_cell? _ _ kc1_0))
          | (go_at_call 17; (with_reducible refine (isPicture_any s2 B m d ys _ hm (hb.step ?_)).mono ?_); (repeat (first | with_reducible assumption | exact Below.refl _ _ | (refine Below.setCell ?_ (by first | exact Nat.le_refl _ | (simp; done) | omega | (simp; omega)) _) | (refine below_drewN ?_ _) | (refine Below.drew ?_) | (refine Below.alloc ?_ (by first | exact Nat.le_refl _ | (simp; done) | omega | (simp; omega)) _) | (refine then_ ?_ (by with_reducible assumption)) | assumption | (refine then_ ?_ (by assumption)))); rintro e w2 ⟨rfl, hb2⟩; simp only [h2]; have kc_0 := keepC (p := ⟨w.heap.size, 0, none⟩) (v := .int .i64 s1) (by first | assumption | (simp [go_sem]; done) | (simp [go_sem, *]; done)) hb2; have kc_1 := keepC (p := ⟨w.heap.size, 1, none⟩) (v := .slice A n c) (by first | assumption | (simp [go_sem]; done) | (simp [go_sem, *]; done)) hb2; have lb_ := (show w.heap.size < _ from World.block_lt_of_cell? _ _ kc_0); have kc1_0 := keepC (p := ⟨w.heap.size + 1, 0, none⟩) (v := .int .i64 s2) (by first | assumption | (simp [go_sem]; done) | (simp [go_sem, *]; done)) hb2; have kc1_1 := keepC (p := ⟨w.heap.size + 1, 1, none⟩) (v := .slice B m d) (by first | assumption | (simp [go_sem]; done) | (simp [go_sem, *]; done)) hb2; have lb1_ := (show w.heap.size + 1 < _ from World.block_lt_of_cell? _ _ kc1_0)))
        go_ret2
        exact ⟨by rw [R.out]; rfl, by (repeat (first | with_reducible assumption | exact Below.refl _ _ | (refine Below.setCell ?_ (by first | exact Nat.le_refl _ | (simp; done) | omega | (simp; omega)) _) | (refine below_drewN ?_ _) | (refine Below.drew ?_) | (refine Below.alloc ?_ (by first | exact Nat.le_refl _ | (simp; done) | omega | (simp; omega)) _) | (refine then_ ?_ (by with_reducible assumption)) | assumption | (refine then_ ?_ (by assumption))))⟩
      · obtain rfl : s1 = s2 := by simpa using h3
        have hl := pict_eq h1
        have hl2 := pict_eq h2
        have hmn : m = n := by
          have e1 := ha.1
          have e2 := hb.1
          have e3 := hl.2.2.2
          have e4 := hl2.2.2.2
          omega
        subst hmn
        have hn64 : m ≤ 64 := by have := ha.1; omega
        have R := Lib.hid (show differ s1 xs s1 ys = dS xs ys m by simp [differ, h1, h2, ha.1])
        have h3' : (s1 != s1) = false := by simp
        clear h3 hl hl2
        go_enter Try.func25, Try.ntmps25
        go_wp2_with (first
          | (go_at_call 17; (with_reducible refine (isPicture_any s1 A m c xs _ hn (ha.step ?_)).mono ?_); (repeat (first | with_reducible assumption | exact Below.refl _ _ | (refine Below.setCell ?_ (by first | exact Nat.le_refl _ | (simp; done) | omega | (simp; omega)) _) | (refine below_drewN ?_ _) | (refine Below.drew ?_) | (refine Below.alloc ?_ (by first | exact Nat.le_refl _ | (simp; done) | omega | (simp; omega)) _) | (refine then_ ?_ (by with_reducible assumption)) | assumption | (refine then_ ?_ (by assumption)))); rintro e w1 ⟨rfl, hb1⟩; simp only [h1]; have kc_0 := keepC (p := ⟨w.heap.size, 0, none⟩) (v := .int .i64 s1) (by first | assumption | (simp [go_sem]; done) | (simp [go_sem, *]; done)) hb1; have kc_1 := keepC (p := ⟨w.heap.size, 1, none⟩) (v := .slice A m c) (by first | assumption | (simp [go_sem]; done) | (simp [go_sem, *]; done)) hb1; have lb_ := (show w.heap.size < _ from World.block_lt_of_cell? _ _ kc_0); have kc1_0 := keepC (p := ⟨w.heap.size + 1, 0, none⟩) (v := .int .i64 s1) (by first | assumption | (simp [go_sem]; done) | (simp [go_sem, *]; done)) hb1; have kc1_1 := keepC (p := ⟨w.heap.size + 1, 1, none⟩) (v := .slice B m d) (by first | assumption | (simp [go_sem]; done) | (simp [go_sem, *]; done)) hb1; have lb1_ := (show w.heap.size + 1 < _ from World.block_lt_of_cell? _ _ kc1_0))
          | (go_at_call 17; (with_reducible refine (isPicture_any s1 B m d ys _ hm (hb.step ?_)).mono ?_); (repeat (first | with_reducible assumption | exact Below.refl _ _ | (refine Below.setCell ?_ (by first | exact Nat.le_refl _ | (simp; done) | omega | (simp; omega)) _) | (refine below_drewN ?_ _) | (refine Below.drew ?_) | (refine Below.alloc ?_ (by first | exact Nat.le_refl _ | (simp; done) | omega | (simp; omega)) _) | (refine then_ ?_ (by with_reducible assumption)) | assumption | (refine then_ ?_ (by assumption)))); rintro e w2 ⟨rfl, hb2⟩; simp only [h2]; have kc_0 := keepC (p := ⟨w.heap.size, 0, none⟩) (v := .int .i64 s1) (by first | assumption | (simp [go_sem]; done) | (simp [go_sem, *]; done)) hb2; have kc_1 := keepC (p := ⟨w.heap.size, 1, none⟩) (v := .slice A m c) (by first | assumption | (simp [go_sem]; done) | (simp [go_sem, *]; done)) hb2; have lb_ := (show w.heap.size < _ from World.block_lt_of_cell? _ _ kc_0); have kc1_0 := keepC (p := ⟨w.heap.size + 1, 0, none⟩) (v := .int .i64 s1) (by first | assumption | (simp [go_sem]; done) | (simp [go_sem, *]; done)) hb2; have kc1_1 := keepC (p := ⟨w.heap.size + 1, 1, none⟩) (v := .slice B m d) (by first | assumption | (simp [go_sem]; done) | (simp [go_sem, *]; done)) hb2; have lb1_ := (show w.heap.size + 1 < _ from World.block_lt_of_cell? _ _ kc1_0)))
        have hW2 : Below w.heap.size w w2 := by (repeat (first | with_reducible assumption | exact Below.refl _ _ | (refine Below.setCell ?_ (by first | exact Nat.le_refl _ | (simp; done) | omega | (simp; omega)) _) | (refine below_drewN ?_ _) | (refine Below.drew ?_) | (refine Below.alloc ?_ (by first | exact Nat.le_refl _ | (simp; done) | omega | (simp; omega)) _) | (refine then_ ?_ (by with_reducible assumption)) | assumption | (refine then_ ?_ (by assumption))))
        have ra : Rd colC 3 w2 w2.heap.size A m xs := ha.step hW2
        have rb : Rd colC 3 w2 w2.heap.size B m ys := hb.step hW2
        clear hb1 hb2
        go_loopw [6, 7, 29] (fun nn ff i wr => ∃ k : Nat, k ≤ m ∧ i = .int .i64 k ∧ nn = .int .i64 (dS xs ys k).1 ∧ ff = .float .f32 (dS xs ys k).2 ∧ Below w2.heap.size w2 wr) (fun _ _ i _ => m - (intOf i).toNat)
        case atStart => exact ⟨0, Nat.zero_le _, rfl, rfl, rfl, Below.refl _ _⟩
        case round =>
          obtain ⟨k, hk, rfl, rfl, rfl, hw⟩ := hrel
          by_cases hlt : k < m
          · obtain ⟨b, off, r, g, l, rfl, hbl, hx, c0, c1, c2⟩ := (ra.below hw).col hlt
            obtain ⟨b', off', r', g', l', rfl, hbl', hy, c0', c1', c2'⟩ := (rb.below hw).col hlt
            have S := Lib.hid (dS_succ hx hy)
            have bd := dS_bd xs ys k
            generalize dS xs ys k = st at *
            obtain ⟨N, F⟩ := st
            dsimp only at bd
            obtain ⟨bd1, bd2⟩ := bd
            have hki : (k : Int) < (m : Int) := by omega
            have hk0 : (0 : Int) ≤ (k : Int) := by omega
            have hz := hw.size
            have kc1_0 := keepC (p := ⟨w.heap.size + 1, 0, none⟩) (v := .int .i64 s1) (by first | assumption | (simp [go_sem]; done) | (simp [go_sem, *]; done)) hw; have kc1_1 := keepC (p := ⟨w.heap.size + 1, 1, none⟩) (v := .slice (some ⟨b', off', none⟩) m d) (by first | assumption | (simp [go_sem]; done) | (simp [go_sem, *]; done)) hw; have lb1_ := (show w.heap.size + 1 < _ from World.block_lt_of_cell? _ _ kc1_0)
            clear hx hy
            have kq := fun wx => run_neq_col r g l r' g' l' wx
            cases hq : colEqB (r, g, l) (r', g', l')
            · rw [hq] at kq
              have S2 := Lib.hid (show dStep (N, F) ((r, g, l), (r', g', l')) = (N + 1, maxB F (farB (r, g, l) (r', g', l'))) by simp [dStep, hq])
              clear hq
              go_wp2_with fail
              obtain ⟨W, hWe⟩ : ∃ W, W = wr.alloc (Obj.cells #[.float .f32 r, .float .f32 g, .float .f32 l] 78) := ⟨_, rfl⟩
              have hW : Below wr.heap.size wr W := by rw [hWe]; (repeat (first | with_reducible assumption | exact Below.refl _ _ | (refine Below.setCell ?_ (by first | exact Nat.le_refl _ | (simp; done) | omega | (simp; omega)) _) | (refine below_drewN ?_ _) | (refine Below.drew ?_) | (refine Below.alloc ?_ (by first | exact Nat.le_refl _ | (simp; done) | omega | (simp; omega)) _) | (refine then_ ?_ (by with_reducible assumption)) | assumption | (refine then_ ?_ (by assumption))))
              have zW : wr.heap.size < W.heap.size := by rw [hWe]; simp
              have q0 : W.cell? ⟨wr.heap.size, 0, none⟩ = some (.float .f32 r) := by rw [hWe]; simp [go_sem]
              have q1 : W.cell? ⟨wr.heap.size, 1, none⟩ = some (.float .f32 g) := by rw [hWe]; simp [go_sem]
              have q2 : W.cell? ⟨wr.heap.size, 2, none⟩ = some (.float .f32 l) := by rw [hWe]; simp [go_sem]
              rw [← hWe]
              have d0 := keepC c0' hW
              have d1 := keepC c1' hW
              have d2 := keepC c2' hW
              have kc1_0 := keepC (p := ⟨w.heap.size + 1, 0, none⟩) (v := .int .i64 s1) (by first | assumption | (simp [go_sem]; done) | (simp [go_sem, *]; done)) hW; have kc1_1 := keepC (p := ⟨w.heap.size + 1, 1, none⟩) (v := .slice (some ⟨b', off', none⟩) m d) (by first | assumption | (simp [go_sem]; done) | (simp [go_sem, *]; done)) hW; have lb1_ := (show w.heap.size + 1 < _ from World.block_lt_of_cell? _ _ kc1_0)
              clear hWe c0 c1 c2 c0' c1' c2'
              go_quiet (fail)
              go_wp2_with fail
              have lt3 : b' < W.heap.size := by omega
              go_region_held3 (fun w' => (∀ b o, b < W.heap.size → w'.cell? ⟨b, o, none⟩ = W.cell? ⟨b, o, none⟩) ∧ Below W.heap.size W w') (first | assumption | exact startS _ | exact startSN _ _ | exact stepS (by assumption) (by assumption)) (first | (go_at_call 69; refine (farColours_any _ _ _ _ _ _ _).mono ?_; rintro e w5 ⟨rfl, hb5⟩))
              have hS := ‹_ ∧ Below W.heap.size W w5›
              have hW5 : Below w2.heap.size w2 w5 := then_ (then_ hw hW) hS.2
              clear hS
              have mm : maxB F (farB (r, g, l) (r', g', l')) = if gtB (farB (r, g, l) (r', g', l')) F then farB (r, g, l) (r', g', l') else F := rfl
              cases hg : gtB (farB (r, g, l) (r', g', l')) F
              all_goals
                rw [hg] at mm
                have MM := Lib.hid mm
                clear mm
                have e1 : (FloatKind.f32.format.order (farB (r, g, l) (r', g', l')) F == some .gt) = gtB (farB (r, g, l) (r', g', l')) F := rfl
                rw [hg] at e1
                clear hg
                go_wp2
                go_roundw
                case rel => exact ⟨k + 1, by omega, by go_num, by rw [S.out, S2.out], by rw [S.out, S2.out, MM.out]; rfl, by (repeat (first | with_reducible assumption | exact Below.refl _ _ | (refine Below.setCell ?_ (by first | exact Nat.le_refl _ | (simp; done) | omega | (simp; omega)) _) | (refine below_drewN ?_ _) | (refine Below.drew ?_) | (refine Below.alloc ?_ (by first | exact Nat.le_refl _ | (simp; done) | omega | (simp; omega)) _) | (refine then_ ?_ (by with_reducible assumption)) | assumption | (refine then_ ?_ (by assumption))))⟩
                case measure => simp [intOf]; omega
            · rw [hq] at kq
              have S2 := Lib.hid (show dStep (N, F) ((r, g, l), (r', g', l')) = (N, F) by simp [dStep, hq])
              have lt3 : b' < wr.heap.size := by omega
              clear hq
              go_wp2_with fail
              go_quiet (fail)
              go_wp2
              go_roundw
              case rel => exact ⟨k + 1, by omega, by go_num, by rw [S.out, S2.out], by rw [S.out, S2.out], by (repeat (first | with_reducible assumption | exact Below.refl _ _ | (refine Below.setCell ?_ (by first | exact Nat.le_refl _ | (simp; done) | omega | (simp; omega)) _) | (refine below_drewN ?_ _) | (refine Below.drew ?_) | (refine Below.alloc ?_ (by first | exact Nat.le_refl _ | (simp; done) | omega | (simp; omega)) _) | (refine then_ ?_ (by with_reducible assumption)) | assumption | (refine then_ ?_ (by assumption))))⟩
              case measure => simp [intOf]; omega
          · obtain rfl : k = m := by omega
            go_wp2
            go_ret2
            exact ⟨by rw [R.out]; rfl, by (repeat (first | with_reducible assumption | exact Below.refl _ _ | (refine Below.setCell ?_ (by first | exact Nat.le_refl _ | (simp; done) | omega | (simp; omega)) _) | (refine below_drewN ?_ _) | (refine Below.drew ?_) | (refine Below.alloc ?_ (by first | exact Nat.le_refl _ | (simp; done) | omega | (simp; omega)) _) | (refine then_ ?_ (by with_reducible assumption)) | assumption | (refine then_ ?_ (by assumption))))⟩
set_option maxRecDepth 100000 in
set_option maxHeartbeats 8000000 in
theorem specDifferOf_any (A B : Option Addr) (s1 s2 : Int) (n m c d : Nat) (xs ys : List Col) (w : World) (hn : n ≤ maxLen) (hm : m ≤ maxLen) (ha : Rd colC 3 w w.heap.size A n xs) (hb : Rd colC 3 w w.heap.size B m ys) :
    Calls Try.prog 24 #[.agg #[.int .i64 s1, .slice A n c], .agg #[.int .i64 s2, .slice B m d]] w fun e w' => e = .returned (.tuple #[.int .i64 (differ s1 xs s2 ys).1, .float .f32 (differ s1 xs s2 ys).2]) ∧ Below w.heap.size w w' := by
  cases h1 : pictB s1 xs
  · have R := Lib.hid (show differ s1 xs s2 ys = (-1, 0) by simp [differ, h1])
    go_enter Try.func24, Try.ntmps24
    go_wp2_with (go_at_call 15; refine (specIsPicture_any s1 A n c xs _ hn (ha.step ?_)).mono ?_; (repeat (first | with_reducible assumption | exact Below.refl _ _ | (refine Below.setCell ?_ (by first | exact Nat.le_refl _ | (simp; done) | omega | (simp; omega)) _) | (refine below_drewN ?_ _) | (refine Below.drew ?_) | (refine Below.alloc ?_ (by first | exact Nat.le_refl _ | (simp; done) | omega | (simp; omega)) _) | (refine then_ ?_ (by with_reducible assumption)) | assumption | (refine then_ ?_ (by assumption)))); rintro e w1 ⟨rfl, hb1⟩; simp only [h1])
    go_ret2
    exact ⟨by rw [R.out]; rfl, by (repeat (first | with_reducible assumption | exact Below.refl _ _ | (refine Below.setCell ?_ (by first | exact Nat.le_refl _ | (simp; done) | omega | (simp; omega)) _) | (refine below_drewN ?_ _) | (refine Below.drew ?_) | (refine Below.alloc ?_ (by first | exact Nat.le_refl _ | (simp; done) | omega | (simp; omega)) _) | (refine then_ ?_ (by with_reducible assumption)) | assumption | (refine then_ ?_ (by assumption))))⟩
  · cases h2 : pictB s2 ys
    · have R := Lib.hid (show differ s1 xs s2 ys = (-1, 0) by simp [differ, h2])
      go_enter Try.func24, Try.ntmps24
      go_wp2_with (first
        | (go_at_call 15; (with_reducible refine (specIsPicture_any s1 A n c xs _ hn (ha.step ?_)).mono ?_); (repeat (first | with_reducible assumption | exact Below.refl _ _ | (refine Below.setCell ?_ (by first | exact Nat.le_refl _ | (simp; done) | omega | (simp; omega)) _) | (refine below_drewN ?_ _) | (refine Below.drew ?_) | (refine Below.alloc ?_ (by first | exact Nat.le_refl _ | (simp; done) | omega | (simp; omega)) _) | (refine then_ ?_ (by with_reducible assumption)) | assumption | (refine then_ ?_ (by assumption)))); rintro e w1 ⟨rfl, hb1⟩; simp only [h1]; have kc_0 := keepC (p := ⟨w.heap.size, 0, none⟩) (v := .int .i64 s1) (by first | assumption | (simp [go_sem]; done) | (simp [go_sem, *]; done)) hb1; have kc_1 := keepC (p := ⟨w.heap.size, 1, none⟩) (v := .slice A n c) (by first | assumption | (simp [go_sem]; done) | (simp [go_sem, *]; done)) hb1; have lb_ := (show w.heap.size < _ from World.block_lt_of_cell? _ _ kc_0); have kc1_0 := keepC (p := ⟨w.heap.size + 1, 0, none⟩) (v := .int .i64 s2) (by first | assumption | (simp [go_sem]; done) | (simp [go_sem, *]; done)) hb1; have kc1_1 := keepC (p := ⟨w.heap.size + 1, 1, none⟩) (v := .slice B m d) (by first | assumption | (simp [go_sem]; done) | (simp [go_sem, *]; done)) hb1; have lb1_ := (show w.heap.size + 1 < _ from World.block_lt_of_cell? _ _ kc1_0))
        | (go_at_call 15; (with_reducible refine (specIsPicture_any s2 B m d ys _ hm (hb.step ?_)).mono ?_); (repeat (first | with_reducible assumption | exact Below.refl _ _ | (refine Below.setCell ?_ (by first | exact Nat.le_refl _ | (simp; done) | omega | (simp; omega)) _) | (refine below_drewN ?_ _) | (refine Below.drew ?_) | (refine Below.alloc ?_ (by first | exact Nat.le_refl _ | (simp; done) | omega | (simp; omega)) _) | (refine then_ ?_ (by with_reducible assumption)) | assumption | (refine then_ ?_ (by assumption)))); rintro e w2 ⟨rfl, hb2⟩; simp only [h2]))
      go_ret2
      exact ⟨by rw [R.out]; rfl, by (repeat (first | with_reducible assumption | exact Below.refl _ _ | (refine Below.setCell ?_ (by first | exact Nat.le_refl _ | (simp; done) | omega | (simp; omega)) _) | (refine below_drewN ?_ _) | (refine Below.drew ?_) | (refine Below.alloc ?_ (by first | exact Nat.le_refl _ | (simp; done) | omega | (simp; omega)) _) | (refine then_ ?_ (by with_reducible assumption)) | assumption | (refine then_ ?_ (by assumption))))⟩
    · cases h3 : (s1 == s2)
      · have R := Lib.hid (show differ s1 xs s2 ys = (-1, 0) by simp [differ, h3])
        have h3' : (s1 != s2) = true := by rw [bne, h3]; rfl
        clear h3
        go_enter Try.func24, Try.ntmps24
        go_wp2_with (first
          | (go_at_call 15; (with_reducible refine (specIsPicture_any s1 A n c xs _ hn (ha.step ?_)).mono ?_); (repeat (first | with_reducible assumption | exact Below.refl _ _ | (refine Below.setCell ?_ (by first | exact Nat.le_refl _ | (simp; done) | omega | (simp; omega)) _) | (refine below_drewN ?_ _) | (refine Below.drew ?_) | (refine Below.alloc ?_ (by first | exact Nat.le_refl _ | (simp; done) | omega | (simp; omega)) _) | (refine then_ ?_ (by with_reducible assumption)) | assumption | (refine then_ ?_ (by assumption)))); rintro e w1 ⟨rfl, hb1⟩; simp only [h1]; have kc_0 := keepC (p := ⟨w.heap.size, 0, none⟩) (v := .int .i64 s1) (by first | assumption | (simp [go_sem]; done) | (simp [go_sem, *]; done)) hb1; have kc_1 := keepC (p := ⟨w.heap.size, 1, none⟩) (v := .slice A n c) (by first | assumption | (simp [go_sem]; done) | (simp [go_sem, *]; done)) hb1; have lb_ := (show w.heap.size < _ from World.block_lt_of_cell? _ _ kc_0); have kc1_0 := keepC (p := ⟨w.heap.size + 1, 0, none⟩) (v := .int .i64 s2) (by first | assumption | (simp [go_sem]; done) | (simp [go_sem, *]; done)) hb1; have kc1_1 := keepC (p := ⟨w.heap.size + 1, 1, none⟩) (v := .slice B m d) (by first | assumption | (simp [go_sem]; done) | (simp [go_sem, *]; done)) hb1; have lb1_ := (show w.heap.size + 1 < _ from World.block_lt_of_cell? _ _ kc1_0))
          | (go_at_call 15; (with_reducible refine (specIsPicture_any s2 B m d ys _ hm (hb.step ?_)).mono ?_); (repeat (first | with_reducible assumption | exact Below.refl _ _ | (refine Below.setCell ?_ (by first | exact Nat.le_refl _ | (simp; done) | omega | (simp; omega)) _) | (refine below_drewN ?_ _) | (refine Below.drew ?_) | (refine Below.alloc ?_ (by first | exact Nat.le_refl _ | (simp; done) | omega | (simp; omega)) _) | (refine then_ ?_ (by with_reducible assumption)) | assumption | (refine then_ ?_ (by assumption)))); rintro e w2 ⟨rfl, hb2⟩; simp only [h2]; have kc_0 := keepC (p := ⟨w.heap.size, 0, none⟩) (v := .int .i64 s1) (by first | assumption | (simp [go_sem]; done) | (simp [go_sem, *]; done)) hb2; have kc_1 := keepC (p := ⟨w.heap.size, 1, none⟩) (v := .slice A n c) (by first | assumption | (simp [go_sem]; done) | (simp [go_sem, *]; done)) hb2; have lb_ := (show w.heap.size < _ from World.block_lt_of_cell? _ _ kc_0); have kc1_0 := keepC (p := ⟨w.heap.size + 1, 0, none⟩) (v := .int .i64 s2) (by first | assumption | (simp [go_sem]; done) | (simp [go_sem, *]; done)) hb2; have kc1_1 := keepC (p := ⟨w.heap.size + 1, 1, none⟩) (v := .slice B m d) (by first | assumption | (simp [go_sem]; done) | (simp [go_sem, *]; done)) hb2; have lb1_ := (show w.heap.size + 1 < _ from World.block_lt_of_cell? _ _ kc1_0)))
        go_ret2
        exact ⟨by rw [R.out]; rfl, by (repeat (first | with_reducible assumption | exact Below.refl _ _ | (refine Below.setCell ?_ (by first | exact Nat.le_refl _ | (simp; done) | omega | (simp; omega)) _) | (refine below_drewN ?_ _) | (refine Below.drew ?_) | (refine Below.alloc ?_ (by first | exact Nat.le_refl _ | (simp; done) | omega | (simp; omega)) _) | (refine then_ ?_ (by with_reducible assumption)) | assumption | (refine then_ ?_ (by assumption))))⟩
      · obtain rfl : s1 = s2 := by simpa using h3
        have hl := pict_eq h1
        have hl2 := pict_eq h2
        have hmn : m = n := by
          have e1 := ha.1
          have e2 := hb.1
          have e3 := hl.2.2.2
          have e4 := hl2.2.2.2
          omega
        subst hmn
        have hn64 : m ≤ 64 := by have := ha.1; omega
        have R := Lib.hid (show differ s1 xs s1 ys = dS xs ys m by simp [differ, h1, h2, ha.1])
        have h3' : (s1 != s1) = false := by simp
        clear h3 hl hl2
        go_enter Try.func24, Try.ntmps24
        go_wp2_with (first
          | (go_at_call 15; (with_reducible refine (specIsPicture_any s1 A m c xs _ hn (ha.step ?_)).mono ?_); (repeat (first | with_reducible assumption | exact Below.refl _ _ | (refine Below.setCell ?_ (by first | exact Nat.le_refl _ | (simp; done) | omega | (simp; omega)) _) | (refine below_drewN ?_ _) | (refine Below.drew ?_) | (refine Below.alloc ?_ (by first | exact Nat.le_refl _ | (simp; done) | omega | (simp; omega)) _) | (refine then_ ?_ (by with_reducible assumption)) | assumption | (refine then_ ?_ (by assumption)))); rintro e w1 ⟨rfl, hb1⟩; simp only [h1]; have kc_0 := keepC (p := ⟨w.heap.size, 0, none⟩) (v := .int .i64 s1) (by first | assumption | (simp [go_sem]; done) | (simp [go_sem, *]; done)) hb1; have kc_1 := keepC (p := ⟨w.heap.size, 1, none⟩) (v := .slice A m c) (by first | assumption | (simp [go_sem]; done) | (simp [go_sem, *]; done)) hb1; have lb_ := (show w.heap.size < _ from World.block_lt_of_cell? _ _ kc_0); have kc1_0 := keepC (p := ⟨w.heap.size + 1, 0, none⟩) (v := .int .i64 s1) (by first | assumption | (simp [go_sem]; done) | (simp [go_sem, *]; done)) hb1; have kc1_1 := keepC (p := ⟨w.heap.size + 1, 1, none⟩) (v := .slice B m d) (by first | assumption | (simp [go_sem]; done) | (simp [go_sem, *]; done)) hb1; have lb1_ := (show w.heap.size + 1 < _ from World.block_lt_of_cell? _ _ kc1_0))
          | (go_at_call 15; (with_reducible refine (specIsPicture_any s1 B m d ys _ hm (hb.step ?_)).mono ?_); (repeat (first | with_reducible assumption | exact Below.refl _ _ | (refine Below.setCell ?_ (by first | exact Nat.le_refl _ | (simp; done) | omega | (simp; omega)) _) | (refine below_drewN ?_ _) | (refine Below.drew ?_) | (refine Below.alloc ?_ (by first | exact Nat.le_refl _ | (simp; done) | omega | (simp; omega)) _) | (refine then_ ?_ (by with_reducible assumption)) | assumption | (refine then_ ?_ (by assumption)))); rintro e w2 ⟨rfl, hb2⟩; simp only [h2]; have kc_0 := keepC (p := ⟨w.heap.size, 0, none⟩) (v := .int .i64 s1) (by first | assumption | (simp [go_sem]; done) | (simp [go_sem, *]; done)) hb2; have kc_1 := keepC (p := ⟨w.heap.size, 1, none⟩) (v := .slice A m c) (by first | assumption | (simp [go_sem]; done) | (simp [go_sem, *]; done)) hb2; have lb_ := (show w.heap.size < _ from World.block_lt_of_cell? _ _ kc_0); have kc1_0 := keepC (p := ⟨w.heap.size + 1, 0, none⟩) (v := .int .i64 s1) (by first | assumption | (simp [go_sem]; done) | (simp [go_sem, *]; done)) hb2; have kc1_1 := keepC (p := ⟨w.heap.size + 1, 1, none⟩) (v := .slice B m d) (by first | assumption | (simp [go_sem]; done) | (simp [go_sem, *]; done)) hb2; have lb1_ := (show w.heap.size + 1 < _ from World.block_lt_of_cell? _ _ kc1_0)))
        have hW2 : Below w.heap.size w w2 := by (repeat (first | with_reducible assumption | exact Below.refl _ _ | (refine Below.setCell ?_ (by first | exact Nat.le_refl _ | (simp; done) | omega | (simp; omega)) _) | (refine below_drewN ?_ _) | (refine Below.drew ?_) | (refine Below.alloc ?_ (by first | exact Nat.le_refl _ | (simp; done) | omega | (simp; omega)) _) | (refine then_ ?_ (by with_reducible assumption)) | assumption | (refine then_ ?_ (by assumption))))
        have ra : Rd colC 3 w2 w2.heap.size A m xs := ha.step hW2
        have rb : Rd colC 3 w2 w2.heap.size B m ys := hb.step hW2
        clear hb1 hb2
        go_loopw [6, 7, 27] (fun nn ff i wr => ∃ k : Nat, k ≤ m ∧ i = .int .i64 k ∧ nn = .int .i64 (dS xs ys k).1 ∧ ff = .float .f32 (dS xs ys k).2 ∧ Below w2.heap.size w2 wr) (fun _ _ i _ => m - (intOf i).toNat)
        case atStart => exact ⟨0, Nat.zero_le _, rfl, rfl, rfl, Below.refl _ _⟩
        case round =>
          obtain ⟨k, hk, rfl, rfl, rfl, hw⟩ := hrel
          by_cases hlt : k < m
          · obtain ⟨b, off, r, g, l, rfl, hbl, hx, c0, c1, c2⟩ := (ra.below hw).col hlt
            obtain ⟨b', off', r', g', l', rfl, hbl', hy, c0', c1', c2'⟩ := (rb.below hw).col hlt
            have S := Lib.hid (dS_succ hx hy)
            have bd := dS_bd xs ys k
            have NF := Lib.hid (dS_nn xs ys k)
            generalize dS xs ys k = st at *
            obtain ⟨N, F⟩ := st
            dsimp only at bd
            obtain ⟨bd1, bd2⟩ := bd
            have hki : (k : Int) < (m : Int) := by omega
            have hk0 : (0 : Int) ≤ (k : Int) := by omega
            have hz := hw.size
            have kc1_0 := keepC (p := ⟨w.heap.size + 1, 0, none⟩) (v := .int .i64 s1) (by first | assumption | (simp [go_sem]; done) | (simp [go_sem, *]; done)) hw; have kc1_1 := keepC (p := ⟨w.heap.size + 1, 1, none⟩) (v := .slice (some ⟨b', off', none⟩) m d) (by first | assumption | (simp [go_sem]; done) | (simp [go_sem, *]; done)) hw; have lb1_ := (show w.heap.size + 1 < _ from World.block_lt_of_cell? _ _ kc1_0)
            have kc_0 := keepC (p := ⟨w.heap.size, 0, none⟩) (v := .int .i64 s1) (by first | assumption | (simp [go_sem]; done) | (simp [go_sem, *]; done)) hw; have kc_1 := keepC (p := ⟨w.heap.size, 1, none⟩) (v := .slice (some ⟨b, off, none⟩) m c) (by first | assumption | (simp [go_sem]; done) | (simp [go_sem, *]; done)) hw; have lb_ := (show w.heap.size < _ from World.block_lt_of_cell? _ _ kc_0)
            have nF : F < 2139095040 := by have := NF.out; exact this
            clear hx hy
            have lt3 : b < wr.heap.size := by omega
            have lt4 : b' < wr.heap.size := by omega
            have kq := fun wx => run_neq_col r g l r' g' l' wx
            cases hq : colEqB (r, g, l) (r', g', l')
            · rw [hq] at kq
              have S2 := Lib.hid (show dStep (N, F) ((r, g, l), (r', g', l')) = (N + 1, maxB F (farB (r, g, l) (r', g', l'))) by simp [dStep, hq])
              have km := fun wx => run_max_nn2 (P := Try.prog) wx #[38, 38] 38 nF (farB_nn (r, g, l) (r', g', l'))
              clear hq nF
              go_wp2_with fail
              go_quiet (fail)
              go_wp2_with fail
              go_region_held3 (fun w' => (∀ b o, b < wr.heap.size → w'.cell? ⟨b, o, none⟩ = wr.cell? ⟨b, o, none⟩) ∧ Below wr.heap.size wr w') (first | assumption | exact startS _ | exact startSN _ _ | exact stepS (by assumption) (by assumption)) (first | (go_at_call 68; refine (specFarColours_any _ _ _ _ _ _ _).mono ?_; rintro e w5 ⟨rfl, hb5⟩))
              have hS := ‹_ ∧ Below wr.heap.size wr w5›
              have hW5 : Below w2.heap.size w2 w5 := then_ hw hS.2
              clear hS
              go_wp2
              go_roundw
              case rel => exact ⟨k + 1, by omega, by go_num, by rw [S.out, S2.out], by rw [S.out, S2.out], by (repeat (first | with_reducible assumption | exact Below.refl _ _ | (refine Below.setCell ?_ (by first | exact Nat.le_refl _ | (simp; done) | omega | (simp; omega)) _) | (refine below_drewN ?_ _) | (refine Below.drew ?_) | (refine Below.alloc ?_ (by first | exact Nat.le_refl _ | (simp; done) | omega | (simp; omega)) _) | (refine then_ ?_ (by with_reducible assumption)) | assumption | (refine then_ ?_ (by assumption))))⟩
              case measure => simp [intOf]; omega
            · rw [hq] at kq
              have S2 := Lib.hid (show dStep (N, F) ((r, g, l), (r', g', l')) = (N, F) by simp [dStep, hq])
              clear hq
              go_wp2_with fail
              go_quiet (fail)
              go_wp2
              go_roundw
              case rel => exact ⟨k + 1, by omega, by go_num, by rw [S.out, S2.out], by rw [S.out, S2.out], by (repeat (first | with_reducible assumption | exact Below.refl _ _ | (refine Below.setCell ?_ (by first | exact Nat.le_refl _ | (simp; done) | omega | (simp; omega)) _) | (refine below_drewN ?_ _) | (refine Below.drew ?_) | (refine Below.alloc ?_ (by first | exact Nat.le_refl _ | (simp; done) | omega | (simp; omega)) _) | (refine then_ ?_ (by with_reducible assumption)) | assumption | (refine then_ ?_ (by assumption))))⟩
              case measure => simp [intOf]; omega
          · obtain rfl : k = m := by omega
            go_wp2
            go_ret2
            exact ⟨by rw [R.out]; rfl, by (repeat (first | with_reducible assumption | exact Below.refl _ _ | (refine Below.setCell ?_ (by first | exact Nat.le_refl _ | (simp; done) | omega | (simp; omega)) _) | (refine below_drewN ?_ _) | (refine Below.drew ?_) | (refine Below.alloc ?_ (by first | exact Nat.le_refl _ | (simp; done) | omega | (simp; omega)) _) | (refine then_ ?_ (by with_reducible assumption)) | assumption | (refine then_ ?_ (by assumption))))⟩
end Go.Proofs.Ythlkpopmoodmgaa
