
/- DrawSyms: three of the eight symmetries. -/
import Derived.Test.YtchkcleenmoajaaDraw
import Derived.Deep.RegionHeld3
import Derived.BigRegion
namespace Go.Proofs.Ytchkcleenmoajaa
open Go.RowKit

theorem Rd.sym {w : World} {B : Nat} {A : Option Addr} {n k : Nat} {xs : List (Int × Bool)} (h : Rd symC 2 w B A n xs) (hk : k < n) :
    ∃ b off t f, A = some ⟨b, off, none⟩ ∧ b < B ∧ xs[k]? = some (t, f) ∧ w.cell? ⟨b, off + k * 2, none⟩ = some (.int .i64 t) ∧ w.cell? ⟨b, off + k * 2 + 1, none⟩ = some (.bool f) := by
  obtain ⟨b, off, ⟨t, f⟩, e, hb, hx, hc⟩ := h.at_ hk
  exact ⟨b, off, t, f, e, hb, hx, hc 0 _ rfl, hc 1 _ rfl⟩
theorem gcell {w w1 : World} {g : Nat} (hg : w.grownBy w1 (some g)) : (∀ b o, b < w.heap.size → b ≠ g → w1.cell? ⟨b, o, none⟩ = w.cell? ⟨b, o, none⟩) ∧ (∀ b o, b < w.heap.size → b ≠ g → w1.frozen? ⟨b, o, none⟩ = w.frozen? ⟨b, o, none⟩) :=
  ⟨fun b o h hne => World.cell?_of_block (hg.block b h (fun e => hne (by injection e))), fun b o h hne => World.frozen?_of_block (hg.block b h (fun e => hne (by injection e)))⟩

theorem seesSet {W w2 : World} {ga : Nat} (h : ∀ o, W.cell? ⟨ga, o, none⟩ = w2.cell? ⟨ga, o, none⟩) {p : Addr} (hp : ¬ p.block = ga) (u : Value) : ∀ o, (W.setCell p u).cell? ⟨ga, o, none⟩ = w2.cell? ⟨ga, o, none⟩ :=
  fun o => (World.cell?_setCell_other W p ⟨ga, o, none⟩ u (fun e => hp (by rw [e]))).trans (h o)

theorem seesDrew (w2 : World) (ga : Nat) : ∀ o, w2.drew.cell? ⟨ga, o, none⟩ = w2.cell? ⟨ga, o, none⟩ := fun _ => rfl
theorem seesOf {w2 w3 : World} {ga g : Nat} (h : ∀ b o, b < w2.heap.size → b ≠ g → w3.cell? ⟨b, o, none⟩ = w2.cell? ⟨b, o, none⟩) (h1 : ga < w2.heap.size) (h2 : ¬ ga = g) : ∀ o, w3.cell? ⟨ga, o, none⟩ = w2.cell? ⟨ga, o, none⟩ := fun o => h ga o h1 h2

set_option maxRecDepth 10000 in
set_option maxHeartbeats 40000000 in
theorem drawSyms_any (A : Option Addr) (m c : Nat) (bs : List Int) (w : World) (hm : m ≤ 4096) (hr : Rd byteC 1 w w.heap.size A m bs) (hb : ∀ x ∈ bs, 0 ≤ x ∧ x ≤ 255) :
    Calls Try.prog 7 #[.slice A m c] w fun e w' => ∃ i j k : Nat, i < 8 ∧ j < 8 ∧ k < 8 ∧ e = .returned (.tuple #[.agg #[.int .i64 (sym8 i).1, .bool (sym8 i).2], .agg #[.int .i64 (sym8 j).1, .bool (sym8 j).2], .agg #[.int .i64 (sym8 k).1, .bool (sym8 k).2]]) ∧ Below w.heap.size w w' := by
  have hmm : m ≤ maxLen := by unfold maxLen; omega
  go_enter Try.func7, Try.ntmps7
  go_wp2_with fail
  refine (l1New_any A m c bs _ hm (hr.step ?_)).mono ?_
  (repeat (first | with_reducible assumption | exact Below.refl _ _ | (refine Below.setCell ?_ (by first | exact Nat.le_refl _ | (simp; done) | omega | (simp; omega)) _) | (refine below_drewN ?_ _) | (refine Below.drew ?_) | (refine Below.alloc ?_ (by first | exact Nat.le_refl _ | (simp; done) | omega | (simp; omega)) _) | (refine then_ ?_ (by with_reducible assumption)) | assumption | (refine then_ ?_ (by assumption))))
  rintro e w1 ⟨g, rfl, hg0, hc1, hb1⟩
  have kf_0 := keepF (p := ⟨w.heap.size, 0, none⟩) (v := .int .i64 0) (by first | assumption | (simp [go_sem]; done) | (simp [go_sem, *]; done)) (by first | assumption | (simp [go_sem]; done) | (simp [go_sem, *]; done)) hb1; have kf_1 := keepF (p := ⟨w.heap.size, 1, none⟩) (v := .bool false) (by first | assumption | (simp [go_sem]; done) | (simp [go_sem, *]; done)) (by first | assumption | (simp [go_sem]; done) | (simp [go_sem, *]; done)) hb1; have kc_0 := keepC (p := ⟨w.heap.size, 0, none⟩) (v := .int .i64 0) (by first | assumption | (simp [go_sem]; done) | (simp [go_sem, *]; done)) hb1; have kc_1 := keepC (p := ⟨w.heap.size, 1, none⟩) (v := .bool false) (by first | assumption | (simp [go_sem]; done) | (simp [go_sem, *]; done)) hb1; have lb_ := (show w.heap.size < _ from World.block_lt_of_cell? _ _ kc_0)
  have kf1_0 := keepF (p := ⟨w.heap.size + 1, 0, none⟩) (v := .int .i64 0) (by first | assumption | (simp [go_sem]; done) | (simp [go_sem, *]; done)) (by first | assumption | (simp [go_sem]; done) | (simp [go_sem, *]; done)) hb1; have kf1_1 := keepF (p := ⟨w.heap.size + 1, 1, none⟩) (v := .bool false) (by first | assumption | (simp [go_sem]; done) | (simp [go_sem, *]; done)) (by first | assumption | (simp [go_sem]; done) | (simp [go_sem, *]; done)) hb1; have kc1_0 := keepC (p := ⟨w.heap.size + 1, 0, none⟩) (v := .int .i64 0) (by first | assumption | (simp [go_sem]; done) | (simp [go_sem, *]; done)) hb1; have kc1_1 := keepC (p := ⟨w.heap.size + 1, 1, none⟩) (v := .bool false) (by first | assumption | (simp [go_sem]; done) | (simp [go_sem, *]; done)) hb1; have lb1_ := (show w.heap.size + 1 < _ from World.block_lt_of_cell? _ _ kc1_0)
  have kf11_0 := keepF (p := ⟨w.heap.size + 1 + 1, 0, none⟩) (v := .int .i64 0) (by first | assumption | (simp [go_sem]; done) | (simp [go_sem, *]; done)) (by first | assumption | (simp [go_sem]; done) | (simp [go_sem, *]; done)) hb1; have kf11_1 := keepF (p := ⟨w.heap.size + 1 + 1, 1, none⟩) (v := .bool false) (by first | assumption | (simp [go_sem]; done) | (simp [go_sem, *]; done)) (by first | assumption | (simp [go_sem]; done) | (simp [go_sem, *]; done)) hb1; have kc11_0 := keepC (p := ⟨w.heap.size + 1 + 1, 0, none⟩) (v := .int .i64 0) (by first | assumption | (simp [go_sem]; done) | (simp [go_sem, *]; done)) hb1; have kc11_1 := keepC (p := ⟨w.heap.size + 1 + 1, 1, none⟩) (v := .bool false) (by first | assumption | (simp [go_sem]; done) | (simp [go_sem, *]; done)) hb1; have lb11_ := (show w.heap.size + 1 + 1 < _ from World.block_lt_of_cell? _ _ kc11_0)
  go_wp2_with fail
  refine (l1All_any w1).mono ?_
  rintro e w2 ⟨Al, cl, rfl, hol, hb2⟩
  obtain ⟨ga, rfl⟩ : ∃ ga, Al = some ⟨ga, 0, none⟩ := by
    rcases hol.2 with ⟨_, h0⟩ | ⟨ga, _, _, h0, _⟩
    · omega
    · injection h0 with h1
      exact ⟨ga, h1⟩
  have hgl := hol.lt ga rfl
  have hAl : ∀ x : Nat, x < 8 → w2.cell? ⟨ga, x * 2, none⟩ = some (.int .i64 (sym8 x).1) ∧ w2.cell? ⟨ga, x * 2 + 1, none⟩ = some (.bool (sym8 x).2) := by
    intro x hx
    have hs : allSyms[x]? = some (sym8 x) := by simp [allSyms, hx]
    exact ⟨(hol.cellAt _ (by omega)).trans (flat_get symC_len allSyms x _ hs 0 _ rfl), (hol.cellAt _ (by omega)).trans (flat_get symC_len allSyms x _ hs 1 _ rfl)⟩
  have HAL := Lib.hid hAl
  clear hAl hol
  simp only [World.size_alloc] at hg0
  have hgw1 : g < w1.heap.size := by
    obtain ⟨i, h, _, hh⟩ := hc1
    rcases Nat.lt_or_ge g w1.heap.size with hlt | hge
    · exact hlt
    · rw [Array.getElem?_eq_none hge] at hh; cases hh
  have hc2 : Cur w2.drew g A m c := by
    obtain ⟨i, h, hi, hh⟩ := hc1
    exact ⟨i, h, hi, (hb2.block g hgw1).trans hh⟩
  have hB2 : Below w.heap.size w w2.drew := by (repeat (first | with_reducible assumption | exact Below.refl _ _ | (refine Below.setCell ?_ (by first | exact Nat.le_refl _ | (simp; done) | omega | (simp; omega)) _) | (refine below_drewN ?_ _) | (refine Below.drew ?_) | (refine Below.alloc ?_ (by first | exact Nat.le_refl _ | (simp; done) | omega | (simp; omega)) _) | (refine then_ ?_ (by with_reducible assumption)) | assumption | (refine then_ ?_ (by assumption))))
  have hG2 : w2.grownBy w2.drew (some g) := ⟨rfl, rfl, rfl, Nat.le_refl _, fun _ _ _ => rfl⟩
  have hga : ga < w2.heap.size := hgl.2
  have hne : ¬ ga = g := by omega
  have n0 : ¬ w.heap.size = g := by omega
  have n1 : ¬ w.heap.size + 1 = g := by omega
  have n2 : ¬ w.heap.size + 1 + 1 = g := by omega
  have kf_0 := keepF (p := ⟨w.heap.size, 0, none⟩) (v := .int .i64 0) (by first | assumption | (simp [go_sem]; done) | (simp [go_sem, *]; done)) (by first | assumption | (simp [go_sem]; done) | (simp [go_sem, *]; done)) hb2; have kf_1 := keepF (p := ⟨w.heap.size, 1, none⟩) (v := .bool false) (by first | assumption | (simp [go_sem]; done) | (simp [go_sem, *]; done)) (by first | assumption | (simp [go_sem]; done) | (simp [go_sem, *]; done)) hb2; have kc_0 := keepC (p := ⟨w.heap.size, 0, none⟩) (v := .int .i64 0) (by first | assumption | (simp [go_sem]; done) | (simp [go_sem, *]; done)) hb2; have kc_1 := keepC (p := ⟨w.heap.size, 1, none⟩) (v := .bool false) (by first | assumption | (simp [go_sem]; done) | (simp [go_sem, *]; done)) hb2; have lb_ := (show w.heap.size < _ from World.block_lt_of_cell? _ _ kc_0)
  have kf1_0 := keepF (p := ⟨w.heap.size + 1, 0, none⟩) (v := .int .i64 0) (by first | assumption | (simp [go_sem]; done) | (simp [go_sem, *]; done)) (by first | assumption | (simp [go_sem]; done) | (simp [go_sem, *]; done)) hb2; have kf1_1 := keepF (p := ⟨w.heap.size + 1, 1, none⟩) (v := .bool false) (by first | assumption | (simp [go_sem]; done) | (simp [go_sem, *]; done)) (by first | assumption | (simp [go_sem]; done) | (simp [go_sem, *]; done)) hb2; have kc1_0 := keepC (p := ⟨w.heap.size + 1, 0, none⟩) (v := .int .i64 0) (by first | assumption | (simp [go_sem]; done) | (simp [go_sem, *]; done)) hb2; have kc1_1 := keepC (p := ⟨w.heap.size + 1, 1, none⟩) (v := .bool false) (by first | assumption | (simp [go_sem]; done) | (simp [go_sem, *]; done)) hb2; have lb1_ := (show w.heap.size + 1 < _ from World.block_lt_of_cell? _ _ kc1_0)
  have kf11_0 := keepF (p := ⟨w.heap.size + 1 + 1, 0, none⟩) (v := .int .i64 0) (by first | assumption | (simp [go_sem]; done) | (simp [go_sem, *]; done)) (by first | assumption | (simp [go_sem]; done) | (simp [go_sem, *]; done)) hb2; have kf11_1 := keepF (p := ⟨w.heap.size + 1 + 1, 1, none⟩) (v := .bool false) (by first | assumption | (simp [go_sem]; done) | (simp [go_sem, *]; done)) (by first | assumption | (simp [go_sem]; done) | (simp [go_sem, *]; done)) hb2; have kc11_0 := keepC (p := ⟨w.heap.size + 1 + 1, 0, none⟩) (v := .int .i64 0) (by first | assumption | (simp [go_sem]; done) | (simp [go_sem, *]; done)) hb2; have kc11_1 := keepC (p := ⟨w.heap.size + 1 + 1, 1, none⟩) (v := .bool false) (by first | assumption | (simp [go_sem]; done) | (simp [go_sem, *]; done)) hb2; have lb11_ := (show w.heap.size + 1 + 1 < _ from World.block_lt_of_cell? _ _ kc11_0)
  clear hb1 hb2 hc1
  go_wp2_with fail
  have m0 : ¬ w.heap.size = ga := by omega
  have m1 : ¬ w.heap.size + 1 = ga := by omega
  have m2 : ¬ w.heap.size + 1 + 1 = ga := by omega
  have tok1 : True := trivial
  have tok2 : True := trivial
  have tok3 : True := trivial
  go_region_held3 (fun w' => ∀ o, w'.cell? ⟨ga, o, none⟩ = w2.cell? ⟨ga, o, none⟩) (first | with_reducible assumption | with_reducible exact seesDrew _ _ | with_reducible exact seesSet (seesSet (by assumption) (by assumption) _) (by assumption) _) (first | (go_at_call 19; have _t := tok1; refine (l1Below_any g A m c bs 8 _ (by omega) (by omega) hmm (by assumption) ((hr.below (by assumption)).more (by omega)) hb).mono ?_; rintro e w3 ⟨x1, hx1, rfl, hc3, hg3⟩; have hB3 := below_of_grown (w0 := w) (by assumption) hg3 (by omega); have hG3 := grown_trans (by assumption : w2.grownBy _ (some g)) hg3; obtain ⟨hq3, hf3⟩ := gcell hG3; have hs3 := seesOf hq3 hga hne; have hy1 := (HAL.out x1 (by omega)).1; have hz1 := (HAL.out x1 (by omega)).2; clear tok1 _t) | (go_at_call 19; have _t := tok2; refine (l1Below_any g A m c bs 8 _ (by omega) (by omega) hmm (by assumption) ((hr.below (by assumption)).more (by omega)) hb).mono ?_; rintro e w3 ⟨x2, hx2, rfl, hc3, hg3⟩; have hB3 := below_of_grown (w0 := w) (by assumption) hg3 (by omega); have hG3 := grown_trans (by assumption : w2.grownBy _ (some g)) hg3; obtain ⟨hq3, hf3⟩ := gcell hG3; have hs3 := seesOf hq3 hga hne; have hy2 := (HAL.out x2 (by omega)).1; have hz2 := (HAL.out x2 (by omega)).2; clear tok2 _t) | (go_at_call 19; have _t := tok3; refine (l1Below_any g A m c bs 8 _ (by omega) (by omega) hmm (by assumption) ((hr.below (by assumption)).more (by omega)) hb).mono ?_; rintro e w3 ⟨x3, hx3, rfl, hc3, hg3⟩; have hB3 := below_of_grown (w0 := w) (by assumption) hg3 (by omega); have hG3 := grown_trans (by assumption : w2.grownBy _ (some g)) hg3; obtain ⟨hq3, hf3⟩ := gcell hG3; have hs3 := seesOf hq3 hga hne; have hy3 := (HAL.out x3 (by omega)).1; have hz3 := (HAL.out x3 (by omega)).2; clear tok3 _t))
  go_wp2
  refine bodyPost_ret (v := .tuple #[.agg #[.int .i64 (sym8 x1).1, .bool (sym8 x1).2], .agg #[.int .i64 (sym8 x2).1, .bool (sym8 x2).2], .agg #[.int .i64 (sym8 x3).1, .bool (sym8 x3).2]]) (by simp [results, Try.results7, go_sem, hq3, lb_, lb1_, lb11_, n0, n1, n2, kc_0, kc_1, kc1_0, kc1_1, kc11_0, kc11_1]) rfl ⟨x1, x2, x3, by omega, by omega, by omega, rfl, ?_⟩
  repeat (refine Below.setCell ?_ (by first | exact Nat.le_refl _ | (simp; done) | (simp; omega)) _)
  exact hB3
end Go.Proofs.Ytchkcleenmoajaa
