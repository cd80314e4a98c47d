
/- ActPicture, both versions. -/
import Derived.Test.YtchkcleenmoajaaIsPic
import Derived.Test.YtchkcleenmoajaaM15
import Derived.Test.YtchkcleenmoajaaM9
import Derived.Test.YtchkcleenmoajaaM23
import Derived.Deep.RegionHeld3
import Derived.Deep.DeepCutAuto
namespace Go.Proofs.Ytchkcleenmoajaa
open Go.RowKit
attribute [local go_sem] run_store_float run_store_complex

def actStep (s t : Int) (f : Bool) (xs ys : List Col) (i : Nat) : List Col := ys.set (cellI s i t f).toNat (xs.getD i (0, 0, 0))
def actUp (s t : Int) (f : Bool) (xs : List Col) (k : Nat) : List Col := (List.range k).foldl (actStep s t f xs) (List.replicate xs.length (0, 0, 0))
def actL (t : Int) (f : Bool) (s : Int) (xs : List Col) : Int × List Col := if inB t 0 3 && pictB s xs then (s, actUp s t f xs xs.length) else (0, [])
theorem actUp_succ {s t : Int} {f : Bool} {xs : List Col} {k : Nat} {x : Col} (hx : xs[k]? = some x) : actUp s t f xs (k + 1) = (actUp s t f xs k).set (cellI s k t f).toNat x := by
  unfold actUp
  rw [List.range_succ, List.foldl_append]
  show actStep s t f xs _ k = _
  unfold actStep
  rw [List.getD_eq_getElem?_getD, hx]; rfl
theorem actUp_len (s t : Int) (f : Bool) (xs : List Col) (k : Nat) : (actUp s t f xs k).length = xs.length := by
  induction k with
  | zero => simp [actUp]
  | succ k ih =>
    unfold actUp at *
    rw [List.range_succ, List.foldl_append]
    show (actStep s t f xs _ k).length = _
    unfold actStep
    rw [List.length_set]; exact ih
theorem flat_set {ys : List Col} : ∀ {i : Nat}, i < ys.length → ∀ (r g l : Nat), flat colC (ys.set i (r, g, l)) = (((flat colC ys).set (i * 3) (.float .f32 r)).set (i * 3 + 1) (.float .f32 g)).set (i * 3 + 2) (.float .f32 l) := by
  induction ys with
  | nil => intro i h; simp at h
  | cons y ys ih =>
    intro i h r g l
    obtain ⟨a, b, c⟩ := y
    cases i with
    | zero => rfl
    | succ i =>
      have h' : i < ys.length := by simpa using h
      rw [List.set_cons_succ, flat_cons, flat_cons, ih h' r g l]
      rw [show (i + 1) * 3 = i * 3 + 1 + 1 + 1 from by omega]
      rfl
theorem flat_replicate (n : Nat) : (madeCells #[.float .f32 0, .float .f32 0, .float .f32 0] (n * 3)).toList = flat colC (List.replicate n (0, 0, 0)) := by
  apply List.ext_getElem?
  intro j
  by_cases hj : j < n * 3
  · have hk : j / 3 < n := by omega
    have hx : (List.replicate n ((0, 0, 0) : Col))[j / 3]? = some (0, 0, 0) := by simp [hk]
    have hm : j % 3 < 3 := Nat.mod_lt _ (by omega)
    have hu : (colC (0, 0, 0))[j % 3]? = some (.float .f32 0) := by
      generalize j % 3 = q at hm
      match q, hm with
      | 0, _ => rfl
      | 1, _ => rfl
      | 2, _ => rfl
    have := flat_get colC_len _ _ _ hx _ _ hu
    rw [show j / 3 * 3 + j % 3 = j from by omega] at this
    rw [this]
    have hr : (Array.range (n * 3))[j]? = some j := by simp [hj]
    rw [madeCells, Array.getElem?_toList, Array.getElem?_map, hr]
    show some (#[Value.float FloatKind.f32 0, .float .f32 0, .float .f32 0][j % 3]!) = _
    generalize j % 3 = q at hm
    match q, hm with
    | 0, _ => rfl
    | 1, _ => rfl
    | 2, _ => rfl
  · rw [List.getElem?_eq_none (by simp [madeCells]; omega), List.getElem?_eq_none (by rw [flat_length colC_len, List.length_replicate]; omega)]
theorem pict_bd {s : Int} {xs : List Col} (h : pictB s xs = true) : xs.length ≤ 64 ∧ 1 ≤ s ∧ s ≤ 8 ∧ (xs.length : Int) = s * s := by
  unfold pictB at h
  simp only [Bool.and_eq_true, beq_iff_eq] at h
  obtain ⟨h1, h2, h3⟩ := h
  obtain ⟨b1, b2⟩ := inB_true h1
  have b3 : s * s ≤ 8 * 8 := Int.mul_le_mul b2 b2 (by omega) (by omega)
  exact ⟨by omega, b1, b2, h2⟩
theorem cellI_bd {s k : Int} (h : okCell s k = true) (t : Int) (f : Bool) : 0 ≤ cellI s k t f ∧ cellI s k t f < s * s := by
  obtain ⟨h1, h2, h3, h4, h5, h6⟩ := okCell_bd h
  have hs := aI_sm (ptI_sm h) t f
  unfold cellI
  generalize aI t f (ptI s k) = q at hs
  obtain ⟨x, y⟩ := q
  obtain ⟨a, b, c, d⟩ := hs
  dsimp only at a b c d
  unfold toCell
  dsimp only
  have e1 : 0 ≤ (s - 1 - y) / 2 ∧ (s - 1 - y) / 2 ≤ s - 1 := by omega
  have e2 : 0 ≤ (x + s - 1) / 2 ∧ (x + s - 1) / 2 ≤ s - 1 := by omega
  generalize (s - 1 - y) / 2 = A at e1
  generalize (x + s - 1) / 2 = B at e2
  have e3 : A * s ≤ (s - 1) * s := Int.mul_le_mul_of_nonneg_right e1.2 (by omega)
  have e4 : 0 ≤ A * s := Int.mul_nonneg e1.1 (by omega)
  have e5 : (s - 1) * s = s * s - s := by rw [Int.sub_mul]; omega
  omega

theorem keepSet {w W : World} {gs B : Nat} (h : ∀ b o, b < B → ¬ b = gs → w.cell? ⟨b, o, none⟩ = W.cell? ⟨b, o, none⟩) (j : Nat) (u : Value) : ∀ b o, b < B → ¬ b = gs → (w.setCell ⟨gs, j, none⟩ u).cell? ⟨b, o, none⟩ = W.cell? ⟨b, o, none⟩ :=
  fun b o hb hn => (World.cell?_setCell_other w ⟨gs, j, none⟩ ⟨b, o, none⟩ u (fun e => hn (by injection e with e1; exact e1.symm))).trans (h b o hb hn)
theorem own_zero {base n : Nat} (W : World) (hb : base ≤ W.heap.size) (hn : n ≤ maxLen) :
    (W.alloc (.cells (madeCells #[.float .f32 0, .float .f32 0, .float .f32 0] (n * 3)) 27)).ownsRow base 27 3 (.slice (some ⟨W.heap.size, 0, none⟩) n n) n (flat colC (List.replicate n (0, 0, 0))) := by
  rw [← flat_replicate]
  exact World.ownsRow_lit W _ n hb hn (by simp [madeCells])

set_option maxRecDepth 100000 in
set_option maxHeartbeats 8000000 in
theorem actPicture_any (t : Int) (f : Bool) (s : Int) (A : Option Addr) (n c : Nat) (xs : List Col) (w : World) (hn : n ≤ maxLen) (ha : Rd colC 3 w w.heap.size A n xs) :
    Calls Try.prog 11 #[.agg #[.int .i64 t, .bool f], .agg #[.int .i64 s, .slice A n c]] w fun e w' => ∃ B d, e = .returned (.agg #[.int .i64 (actL t f s xs).1, .slice B (actL t f s xs).2.length d]) ∧ w'.ownsRow w.heap.size 27 3 (.slice B (actL t f s xs).2.length d) (actL t f s xs).2.length (flat colC (actL t f s xs).2) ∧ Below w.heap.size w w' := by
  cases h1 : inB t 0 3
  · have R := Lib.hid (show actL t f s xs = (0, []) by simp [actL, h1])
    go_enter Try.func11, Try.ntmps11
    go_wp2_with (go_at_call 24; refine (isSym_any _ _ _).mono ?_; rintro e w1 ⟨rfl, hb1⟩; simp only [h1]; have kf11_0 := keepF (p := ⟨w.heap.size + 1 + 1, 0, none⟩) (v := .int .i64 0) (by first | assumption | (simp [go_sem]; done) | (simp [go_sem, *]; done)) (by first | assumption | (simp [go_sem]; done) | (simp [go_sem, *]; done)) hb1; have kf11_1 := keepF (p := ⟨w.heap.size + 1 + 1, 1, none⟩) (v := .slice none 0 0) (by first | assumption | (simp [go_sem]; done) | (simp [go_sem, *]; done)) (by first | assumption | (simp [go_sem]; done) | (simp [go_sem, *]; done)) hb1; have kc11_0 := keepC (p := ⟨w.heap.size + 1 + 1, 0, none⟩) (v := .int .i64 0) (by first | assumption | (simp [go_sem]; done) | (simp [go_sem, *]; done)) hb1; have kc11_1 := keepC (p := ⟨w.heap.size + 1 + 1, 1, none⟩) (v := .slice none 0 0) (by first | assumption | (simp [go_sem]; done) | (simp [go_sem, *]; done)) hb1; have lb11_ := (show w.heap.size + 1 + 1 < _ from World.block_lt_of_cell? _ _ kc11_0))
    exact bodyPost_ret (v := .agg #[.int .i64 0, .slice none 0 0]) (by simp [results, Try.results11, go_sem, *]) rfl ⟨none, 0, by rw [R.out]; rfl, by rw [R.out]; exact ⟨rfl, .inl ⟨rfl, rfl⟩⟩, by (repeat (first | with_reducible assumption | exact Below.refl _ _ | (refine Below.setCell ?_ (by first | exact Nat.le_refl _ | (simp; done) | omega | (simp; omega)) _) | (refine below_drewN ?_ _) | (refine Below.drew ?_) | (refine Below.alloc ?_ (by first | exact Nat.le_refl _ | (simp; done) | omega | (simp; omega)) _) | (refine then_ ?_ (by with_reducible assumption)) | assumption | (refine then_ ?_ (by assumption))))⟩
  · cases h2 : pictB s xs
    · have R := Lib.hid (show actL t f s xs = (0, []) by simp [actL, h2])
      go_enter Try.func11, Try.ntmps11
      go_wp2_with (first
        | (go_at_call 24; refine (isSym_any _ _ _).mono ?_; rintro e w1 ⟨rfl, hb1⟩; simp only [h1]; have kc1_0 := keepC (p := ⟨w.heap.size + 1, 0, none⟩) (v := .int .i64 s) (by first | assumption | (simp [go_sem]; done) | (simp [go_sem, *]; done)) hb1; have kc1_1 := keepC (p := ⟨w.heap.size + 1, 1, none⟩) (v := .slice A n c) (by first | assumption | (simp [go_sem]; done) | (simp [go_sem, *]; done)) hb1; have lb1_ := (show w.heap.size + 1 < _ from World.block_lt_of_cell? _ _ kc1_0); have kf11_0 := keepF (p := ⟨w.heap.size + 1 + 1, 0, none⟩) (v := .int .i64 0) (by first | assumption | (simp [go_sem]; done) | (simp [go_sem, *]; done)) (by first | assumption | (simp [go_sem]; done) | (simp [go_sem, *]; done)) hb1; have kf11_1 := keepF (p := ⟨w.heap.size + 1 + 1, 1, none⟩) (v := .slice none 0 0) (by first | assumption | (simp [go_sem]; done) | (simp [go_sem, *]; done)) (by first | assumption | (simp [go_sem]; done) | (simp [go_sem, *]; done)) hb1; have kc11_0 := keepC (p := ⟨w.heap.size + 1 + 1, 0, none⟩) (v := .int .i64 0) (by first | assumption | (simp [go_sem]; done) | (simp [go_sem, *]; done)) hb1; have kc11_1 := keepC (p := ⟨w.heap.size + 1 + 1, 1, none⟩) (v := .slice none 0 0) (by first | assumption | (simp [go_sem]; done) | (simp [go_sem, *]; done)) hb1; have lb11_ := (show w.heap.size + 1 + 1 < _ from World.block_lt_of_cell? _ _ kc11_0))
        | (go_at_call 12; refine (isPicture_any s A n c xs _ hn (ha.step ?_)).mono ?_; (repeat (first | with_reducible assumption | exact Below.refl _ _ | (refine Below.setCell ?_ (by first | exact Nat.le_refl _ | (simp; done) | omega | (simp; omega)) _) | (refine below_drewN ?_ _) | (refine Below.drew ?_) | (refine Below.alloc ?_ (by first | exact Nat.le_refl _ | (simp; done) | omega | (simp; omega)) _) | (refine then_ ?_ (by with_reducible assumption)) | assumption | (refine then_ ?_ (by assumption)))); rintro e w2 ⟨rfl, hb2⟩; simp only [h2]; have kf11_0 := keepF (p := ⟨w.heap.size + 1 + 1, 0, none⟩) (v := .int .i64 0) (by first | assumption | (simp [go_sem]; done) | (simp [go_sem, *]; done)) (by first | assumption | (simp [go_sem]; done) | (simp [go_sem, *]; done)) hb2; have kf11_1 := keepF (p := ⟨w.heap.size + 1 + 1, 1, none⟩) (v := .slice none 0 0) (by first | assumption | (simp [go_sem]; done) | (simp [go_sem, *]; done)) (by first | assumption | (simp [go_sem]; done) | (simp [go_sem, *]; done)) hb2; have kc11_0 := keepC (p := ⟨w.heap.size + 1 + 1, 0, none⟩) (v := .int .i64 0) (by first | assumption | (simp [go_sem]; done) | (simp [go_sem, *]; done)) hb2; have kc11_1 := keepC (p := ⟨w.heap.size + 1 + 1, 1, none⟩) (v := .slice none 0 0) (by first | assumption | (simp [go_sem]; done) | (simp [go_sem, *]; done)) hb2; have lb11_ := (show w.heap.size + 1 + 1 < _ from World.block_lt_of_cell? _ _ kc11_0)))
      exact bodyPost_ret (v := .agg #[.int .i64 0, .slice none 0 0]) (by simp [results, Try.results11, go_sem, *]) rfl ⟨none, 0, by rw [R.out]; rfl, by rw [R.out]; exact ⟨rfl, .inl ⟨rfl, rfl⟩⟩, by (repeat (first | with_reducible assumption | exact Below.refl _ _ | (refine Below.setCell ?_ (by first | exact Nat.le_refl _ | (simp; done) | omega | (simp; omega)) _) | (refine below_drewN ?_ _) | (refine Below.drew ?_) | (refine Below.alloc ?_ (by first | exact Nat.le_refl _ | (simp; done) | omega | (simp; omega)) _) | (refine then_ ?_ (by with_reducible assumption)) | assumption | (refine then_ ?_ (by assumption))))⟩
    · have hl := pict_bd h2
      have hn64 : n ≤ 64 := by have := ha.1; omega
      have hss : s * s = (n : Int) := by have := ha.1; have := hl.2.2.2; omega
      have R := Lib.hid (show actL t f s xs = (s, actUp s t f xs n) by simp [actL, h1, h2, ha.1])
      have HL := Lib.hid ha.1
      obtain ⟨hl1, hl2, hl3, hl4⟩ := hl
      have SS := Lib.hid hss
      clear hl4 hss
      obtain ⟨i0, hi, hz0, hz1, hz2⟩ := info_parts infoCol
      have hmk := fun wx => run_make (P := Try.prog) wx 38 27 i0 _ Try.underlying38 hi hz0 .i64 .i64 n n (by omega) (Int.le_refl _) (by rw [hz2]; omega) (by omega)
      simp only [Int.toNat_natCast, hz1] at hmk
      go_enter Try.func11, Try.ntmps11
      go_wp2_with (first
        | (go_at_call 24; refine (isSym_any _ _ _).mono ?_; rintro e w1 ⟨rfl, hb1⟩; simp only [h1]; have kc_0 := keepC (p := ⟨w.heap.size, 0, none⟩) (v := .int .i64 t) (by first | assumption | (simp [go_sem]; done) | (simp [go_sem, *]; done)) hb1; have kc_1 := keepC (p := ⟨w.heap.size, 1, none⟩) (v := .bool f) (by first | assumption | (simp [go_sem]; done) | (simp [go_sem, *]; done)) hb1; have lb_ := (show w.heap.size < _ from World.block_lt_of_cell? _ _ kc_0); have kc1_0 := keepC (p := ⟨w.heap.size + 1, 0, none⟩) (v := .int .i64 s) (by first | assumption | (simp [go_sem]; done) | (simp [go_sem, *]; done)) hb1; have kc1_1 := keepC (p := ⟨w.heap.size + 1, 1, none⟩) (v := .slice A n c) (by first | assumption | (simp [go_sem]; done) | (simp [go_sem, *]; done)) hb1; have lb1_ := (show w.heap.size + 1 < _ from World.block_lt_of_cell? _ _ kc1_0); have kf11_0 := keepF (p := ⟨w.heap.size + 1 + 1, 0, none⟩) (v := .int .i64 0) (by first | assumption | (simp [go_sem]; done) | (simp [go_sem, *]; done)) (by first | assumption | (simp [go_sem]; done) | (simp [go_sem, *]; done)) hb1; have kf11_1 := keepF (p := ⟨w.heap.size + 1 + 1, 1, none⟩) (v := .slice none 0 0) (by first | assumption | (simp [go_sem]; done) | (simp [go_sem, *]; done)) (by first | assumption | (simp [go_sem]; done) | (simp [go_sem, *]; done)) hb1; have kc11_0 := keepC (p := ⟨w.heap.size + 1 + 1, 0, none⟩) (v := .int .i64 0) (by first | assumption | (simp [go_sem]; done) | (simp [go_sem, *]; done)) hb1; have kc11_1 := keepC (p := ⟨w.heap.size + 1 + 1, 1, none⟩) (v := .slice none 0 0) (by first | assumption | (simp [go_sem]; done) | (simp [go_sem, *]; done)) hb1; have lb11_ := (show w.heap.size + 1 + 1 < _ from World.block_lt_of_cell? _ _ kc11_0))
        | (go_at_call 12; refine (isPicture_any s A n c xs _ hn (ha.step ?_)).mono ?_; (repeat (first | with_reducible assumption | exact Below.refl _ _ | (refine Below.setCell ?_ (by first | exact Nat.le_refl _ | (simp; done) | omega | (simp; omega)) _) | (refine below_drewN ?_ _) | (refine Below.drew ?_) | (refine Below.alloc ?_ (by first | exact Nat.le_refl _ | (simp; done) | omega | (simp; omega)) _) | (refine then_ ?_ (by with_reducible assumption)) | assumption | (refine then_ ?_ (by assumption)))); rintro e w2 ⟨rfl, hb2⟩; simp only [h2]; have kc_0 := keepC (p := ⟨w.heap.size, 0, none⟩) (v := .int .i64 t) (by first | assumption | (simp [go_sem]; done) | (simp [go_sem, *]; done)) hb2; have kc_1 := keepC (p := ⟨w.heap.size, 1, none⟩) (v := .bool f) (by first | assumption | (simp [go_sem]; done) | (simp [go_sem, *]; done)) hb2; have lb_ := (show w.heap.size < _ from World.block_lt_of_cell? _ _ kc_0); have kc1_0 := keepC (p := ⟨w.heap.size + 1, 0, none⟩) (v := .int .i64 s) (by first | assumption | (simp [go_sem]; done) | (simp [go_sem, *]; done)) hb2; have kc1_1 := keepC (p := ⟨w.heap.size + 1, 1, none⟩) (v := .slice A n c) (by first | assumption | (simp [go_sem]; done) | (simp [go_sem, *]; done)) hb2; have lb1_ := (show w.heap.size + 1 < _ from World.block_lt_of_cell? _ _ kc1_0); have kf11_0 := keepF (p := ⟨w.heap.size + 1 + 1, 0, none⟩) (v := .int .i64 0) (by first | assumption | (simp [go_sem]; done) | (simp [go_sem, *]; done)) (by first | assumption | (simp [go_sem]; done) | (simp [go_sem, *]; done)) hb2; have kf11_1 := keepF (p := ⟨w.heap.size + 1 + 1, 1, none⟩) (v := .slice none 0 0) (by first | assumption | (simp [go_sem]; done) | (simp [go_sem, *]; done)) (by first | assumption | (simp [go_sem]; done) | (simp [go_sem, *]; done)) hb2; have kc11_0 := keepC (p := ⟨w.heap.size + 1 + 1, 0, none⟩) (v := .int .i64 0) (by first | assumption | (simp [go_sem]; done) | (simp [go_sem, *]; done)) hb2; have kc11_1 := keepC (p := ⟨w.heap.size + 1 + 1, 1, none⟩) (v := .slice none 0 0) (by first | assumption | (simp [go_sem]; done) | (simp [go_sem, *]; done)) hb2; have lb11_ := (show w.heap.size + 1 + 1 < _ from World.block_lt_of_cell? _ _ kc11_0)))
      have hW2 : Below w.heap.size w w2 := by (repeat (first | with_reducible assumption | exact Below.refl _ _ | (refine Below.setCell ?_ (by first | exact Nat.le_refl _ | (simp; done) | omega | (simp; omega)) _) | (refine below_drewN ?_ _) | (refine Below.drew ?_) | (refine Below.alloc ?_ (by first | exact Nat.le_refl _ | (simp; done) | omega | (simp; omega)) _) | (refine then_ ?_ (by with_reducible assumption)) | assumption | (refine then_ ?_ (by assumption))))
      have ra : Rd colC 3 w2 w2.heap.size A n xs := ha.step hW2
      clear hb1 hb2
      go_cut [5] (fun p5 wx => ∃ g5 gs : Nat, p5 = .pointer (some ⟨g5, 0, none⟩) ∧ wx.cell? ⟨g5, 0, none⟩ = some (.int .i64 s) ∧ wx.cell? ⟨g5, 1, none⟩ = some (.slice (some ⟨gs, 0, none⟩) n n) ∧ w2.heap.size ≤ g5 ∧ ¬ g5 = gs ∧ wx.ownsRow w2.heap.size 27 3 (.slice (some ⟨gs, 0, none⟩) n n) n (flat colC (List.replicate n (0, 0, 0))) ∧ Below w2.heap.size w2 wx)
      case first =>
        go_region_held3 (fun w' => w'.cell? ⟨w.heap.size + 1, 0, none⟩ = some (.int .i64 s) ∧ w'.cell? ⟨w.heap.size + 1, 1, none⟩ = some (.slice A n c)) (go_keep) (fail)
        · go_wp2_with fail
          go_meet
          exact ⟨w2.heap.size + 1, w2.heap.size, rfl, by simp [go_sem], by simp [go_sem], by omega, by omega, World.ownsRow.drew ((own_zero w2 (Nat.le_refl _) hn).alloc _), by (repeat (first | with_reducible assumption | exact Below.refl _ _ | (refine Below.setCell ?_ (by first | exact Nat.le_refl _ | (simp; done) | omega | (simp; omega)) _) | (refine below_drewN ?_ _) | (refine Below.drew ?_) | (refine Below.alloc ?_ (by first | exact Nat.le_refl _ | (simp; done) | omega | (simp; omega)) _) | (refine then_ ?_ (by with_reducible assumption)) | assumption | (refine then_ ?_ (by assumption))))⟩
        · go_wp2_with fail
          go_meet
          have hz : (w2.alloc (Obj.cells #[Value.int .i64 s, Value.slice (some ⟨w2.heap.size + 1, 0, none⟩) n n] 40)).heap.size = w2.heap.size + 1 := by simp
          have o := own_zero (base := w2.heap.size) (n := n) (w2.alloc (Obj.cells #[Value.int .i64 s, Value.slice (some ⟨w2.heap.size + 1, 0, none⟩) n n] 40)) (by omega) hn
          rw [hz] at o
          exact ⟨w2.heap.size, w2.heap.size + 1, rfl, by simp [go_sem], by simp [go_sem], by omega, by omega, World.ownsRow.drew o, by (repeat (first | with_reducible assumption | exact Below.refl _ _ | (refine Below.setCell ?_ (by first | exact Nat.le_refl _ | (simp; done) | omega | (simp; omega)) _) | (refine below_drewN ?_ _) | (refine Below.drew ?_) | (refine Below.alloc ?_ (by first | exact Nat.le_refl _ | (simp; done) | omega | (simp; omega)) _) | (refine then_ ?_ (by with_reducible assumption)) | assumption | (refine then_ ?_ (by assumption))))⟩
      case rest =>
        obtain ⟨g5, gs, rfl, d0, d1, hg5, hne, hown, hwc⟩ := hcut
        have O0 := Lib.hid hown
        have gs0 := (hown.lt gs rfl).1
        have hB0 := hwc.size
        clear hown
        have kc1_0 := keepC (p := ⟨w.heap.size + 1, 0, none⟩) (v := .int .i64 s) (by first | assumption | (simp [go_sem]; done) | (simp [go_sem, *]; done)) hwc; have kc1_1 := keepC (p := ⟨w.heap.size + 1, 1, none⟩) (v := .slice A n c) (by first | assumption | (simp [go_sem]; done) | (simp [go_sem, *]; done)) hwc; have lb1_ := (show w.heap.size + 1 < _ from World.block_lt_of_cell? _ _ kc1_0)
        go_wp2_with fail
        go_loopw [27] (fun i wr => ∃ k : Nat, k ≤ n ∧ i = .int .i64 k ∧ wr.cell? ⟨g5, 0, none⟩ = some (.int .i64 s) ∧ wr.cell? ⟨g5, 1, none⟩ = some (.slice (some ⟨gs, 0, none⟩) n n) ∧ wr.ownsRow w2.heap.size 27 3 (.slice (some ⟨gs, 0, none⟩) n n) n (flat colC (actUp s t f xs k)) ∧ Below w2.heap.size w2 wr) (fun i _ => n - (intOf i).toNat)
        case atStart => exact ⟨0, Nat.zero_le _, rfl, d0, d1, by unfold actUp; rw [HL.out]; exact O0.out, hwc⟩
        case round =>
          clear d0 d1 hwc hB0 O0
          obtain ⟨k, hk, rfl, d0, d1, hown, hw⟩ := hrel
          have OW := Lib.hid hown
          have hz := hw.size
          clear hown
          by_cases hlt : k < n
          · obtain ⟨b, off, r, g, l, rfl, hbl, hx, c0, c1, c2⟩ := (ra.below hw).col hlt
            have S := Lib.hid (actUp_succ (s := s) (t := t) (f := f) hx)
            have hki : (k : Int) < (n : Int) := by omega
            have hk0 : (0 : Int) ≤ (k : Int) := by omega
            have hok : okCell s k = true := by
              have := SS.out
              unfold okCell inB
              simp only [Bool.and_eq_true, decide_eq_true_eq]
              omega
            have hcb := cellI_bd hok t f
            have hcv : cellV s k t f = cellI s k t f := by simp [cellV, hok, h1]
            obtain ⟨q, hq⟩ := Int.eq_ofNat_of_zero_le hcb.1
            have hqn : q < n := by have := SS.out; omega
            have CV := Lib.hid (show cellV s k t f = (q : Int) by rw [hcv, hq])
            have HQ := Lib.hid hq
            clear hx hok hcb hcv hq
            have kc_0 := keepC (p := ⟨w.heap.size, 0, none⟩) (v := .int .i64 t) (by first | assumption | (simp [go_sem]; done) | (simp [go_sem, *]; done)) hw; have kc_1 := keepC (p := ⟨w.heap.size, 1, none⟩) (v := .bool f) (by first | assumption | (simp [go_sem]; done) | (simp [go_sem, *]; done)) hw; have lb_ := (show w.heap.size < _ from World.block_lt_of_cell? _ _ kc_0)
            have kc1_0 := keepC (p := ⟨w.heap.size + 1, 0, none⟩) (v := .int .i64 s) (by first | assumption | (simp [go_sem]; done) | (simp [go_sem, *]; done)) hw; have kc1_1 := keepC (p := ⟨w.heap.size + 1, 1, none⟩) (v := .slice (some ⟨b, off, none⟩) n c) (by first | assumption | (simp [go_sem]; done) | (simp [go_sem, *]; done)) hw; have lb1_ := (show w.heap.size + 1 < _ from World.block_lt_of_cell? _ _ kc1_0)
            go_wp2_with fail
            obtain ⟨W, hWe⟩ : ∃ W, W = wr.alloc (Obj.cells #[.float .f32 r, .float .f32 g, .float .f32 l] 27) := ⟨_, rfl⟩
            have hW : Below wr.heap.size wr W := by rw [hWe]; (repeat (first | with_reducible assumption | exact Below.refl _ _ | (refine Below.setCell ?_ (by first | exact Nat.le_refl _ | (simp; done) | omega | (simp; omega)) _) | (refine below_drewN ?_ _) | (refine Below.drew ?_) | (refine Below.alloc ?_ (by first | exact Nat.le_refl _ | (simp; done) | omega | (simp; omega)) _) | (refine then_ ?_ (by with_reducible assumption)) | assumption | (refine then_ ?_ (by assumption))))
            have zW : wr.heap.size < W.heap.size := by rw [hWe]; simp
            have q0 : W.cell? ⟨wr.heap.size, 0, none⟩ = some (.float .f32 r) := by rw [hWe]; simp [go_sem]
            have q1 : W.cell? ⟨wr.heap.size, 1, none⟩ = some (.float .f32 g) := by rw [hWe]; simp [go_sem]
            have q2 : W.cell? ⟨wr.heap.size, 2, none⟩ = some (.float .f32 l) := by rw [hWe]; simp [go_sem]
            rw [← hWe]
            have e0 := keepC d0 hW
            have e1 := keepC d1 hW
            have l5 := World.block_lt_of_cell? _ _ e0
            dsimp only at l5
            have kc_0 := keepC (p := ⟨w.heap.size, 0, none⟩) (v := .int .i64 t) (by first | assumption | (simp [go_sem]; done) | (simp [go_sem, *]; done)) hW; have kc_1 := keepC (p := ⟨w.heap.size, 1, none⟩) (v := .bool f) (by first | assumption | (simp [go_sem]; done) | (simp [go_sem, *]; done)) hW; have lb_ := (show w.heap.size < _ from World.block_lt_of_cell? _ _ kc_0)
            have kc1_0 := keepC (p := ⟨w.heap.size + 1, 0, none⟩) (v := .int .i64 s) (by first | assumption | (simp [go_sem]; done) | (simp [go_sem, *]; done)) hW; have kc1_1 := keepC (p := ⟨w.heap.size + 1, 1, none⟩) (v := .slice (some ⟨b, off, none⟩) n c) (by first | assumption | (simp [go_sem]; done) | (simp [go_sem, *]; done)) hW; have lb1_ := (show w.heap.size + 1 < _ from World.block_lt_of_cell? _ _ kc1_0)
            have gl := (OW.out.lt gs rfl).2
            have n0 : ¬ w.heap.size = gs := by omega
            have n1 : ¬ w.heap.size + 1 = gs := by omega
            have n2 : ¬ wr.heap.size = gs := by omega
            have OW' := Lib.hid (owns_below OW.out hW)
            clear hWe c0 c1 c2 d0 d1
            go_region_held3 (fun w' => ∀ b o, b < W.heap.size → ¬ b = gs → w'.cell? ⟨b, o, none⟩ = W.cell? ⟨b, o, none⟩) (first | exact (fun _ _ _ _ => rfl) | assumption | exact keepSet (keepSet (keepSet (by assumption) _ _) _ _) _ _) ((go_at_call 37; refine (cellTo_any _ _ _ _ _).mono ?_; rintro e w5 ⟨rfl, hb5⟩; simp only [CV.out]; have hS5 : ∀ b o, b < W.heap.size → ¬ b = gs → w5.cell? ⟨b, o, none⟩ = W.cell? ⟨b, o, none⟩ := (fun b o h _ => hb5.cell (p := ⟨b, o, none⟩) h); have hB5 : Below W.heap.size W w5 := (by (repeat (first | with_reducible assumption | exact Below.refl _ _ | (refine Below.setCell ?_ (by first | exact Nat.le_refl _ | (simp; done) | omega | (simp; omega)) _) | (refine below_drewN ?_ _) | (refine Below.drew ?_) | (refine Below.alloc ?_ (by first | exact Nat.le_refl _ | (simp; done) | omega | (simp; omega)) _) | (refine then_ ?_ (by with_reducible assumption)) | assumption | (refine then_ ?_ (by assumption))))); have OW5 := Lib.hid (owns_below OW'.out hB5); obtain ⟨v0, hv0⟩ := owns_cell OW5.out (q * 3) (by omega); obtain ⟨v1, hv1⟩ := owns_cell OW5.out (q * 3 + 1) (by omega); obtain ⟨v2, hv2⟩ := owns_cell OW5.out (q * 3 + 2) (by omega); have hfr := fun j => OW5.out.frozenAt j))
            go_wp2
            go_roundw
            case rel =>
              have hSS := keepSet (keepSet (keepSet hS5 (q * 3) (.float .f32 r)) (q * 3 + 1) (.float .f32 g)) (q * 3 + 2) (.float .f32 l)
              refine ⟨k + 1, by omega, by go_num, (hSS g5 0 l5 hne).trans e0, (hSS g5 1 l5 hne).trans e1, ?_, ?_⟩
              · rw [S.out, HQ.out, Int.toNat_natCast, flat_set (by rw [actUp_len, HL.out]; exact hqn)]
                exact (((OW5.out.stored (q * 3) _).1.stored (q * 3 + 1) _).1.stored (q * 3 + 2) _).1
              · have hB := then_ (then_ hw hW) hB5
                (repeat (first | with_reducible assumption | exact Below.refl _ _ | (refine Below.setCell ?_ (by first | exact Nat.le_refl _ | (simp; done) | omega | (simp; omega)) _) | (refine below_drewN ?_ _) | (refine Below.drew ?_) | (refine Below.alloc ?_ (by first | exact Nat.le_refl _ | (simp; done) | omega | (simp; omega)) _) | (refine then_ ?_ (by with_reducible assumption)) | assumption | (refine then_ ?_ (by assumption))))
            case measure => simp [intOf]; omega
          · obtain rfl : k = n := by omega
            have kf11_0 := keepF (p := ⟨w.heap.size + 1 + 1, 0, none⟩) (v := .int .i64 0) (by first | assumption | (simp [go_sem]; done) | (simp [go_sem, *]; done)) (by first | assumption | (simp [go_sem]; done) | (simp [go_sem, *]; done)) hw; have kf11_1 := keepF (p := ⟨w.heap.size + 1 + 1, 1, none⟩) (v := .slice none 0 0) (by first | assumption | (simp [go_sem]; done) | (simp [go_sem, *]; done)) (by first | assumption | (simp [go_sem]; done) | (simp [go_sem, *]; done)) hw; have kc11_0 := keepC (p := ⟨w.heap.size + 1 + 1, 0, none⟩) (v := .int .i64 0) (by first | assumption | (simp [go_sem]; done) | (simp [go_sem, *]; done)) hw; have kc11_1 := keepC (p := ⟨w.heap.size + 1 + 1, 1, none⟩) (v := .slice none 0 0) (by first | assumption | (simp [go_sem]; done) | (simp [go_sem, *]; done)) hw; have lb11_ := (show w.heap.size + 1 + 1 < _ from World.block_lt_of_cell? _ _ kc11_0)
            go_wp2
            exact bodyPost_ret (v := .agg #[.int .i64 s, .slice (some ⟨gs, 0, none⟩) k k]) (by simp [results, Try.results11, go_sem, *]) rfl ⟨some ⟨gs, 0, none⟩, k, by rw [R.out, actUp_len, HL.out], by
              rw [R.out, actUp_len, HL.out]
              have hl := (OW.out.lt gs rfl).1
              exact owns_mono (ownsRow_setCell_below (ownsRow_setCell_below OW.out (by simp; omega) _) (by simp; omega) _) hW2.size, by (repeat (first | with_reducible assumption | exact Below.refl _ _ | (refine Below.setCell ?_ (by first | exact Nat.le_refl _ | (simp; done) | omega | (simp; omega)) _) | (refine below_drewN ?_ _) | (refine Below.drew ?_) | (refine Below.alloc ?_ (by first | exact Nat.le_refl _ | (simp; done) | omega | (simp; omega)) _) | (refine then_ ?_ (by with_reducible assumption)) | assumption | (refine then_ ?_ (by assumption))))⟩
end Go.Proofs.Ytchkcleenmoajaa
