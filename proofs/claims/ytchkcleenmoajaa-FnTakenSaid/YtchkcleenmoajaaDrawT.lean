
/- Draws of numbers from wider ranges, of points and speeds. -/
import Derived.Test.YtchkcleenmoajaaDrawP
import Derived.Test.YtchkcleenmoajaaFltN
import Derived.Test.YtchkcleenmoajaaFltQ
namespace Go.Proofs.Ytchkcleenmoajaa
open Go.RowKit
attribute [local go_sem] run_store_float run_store_complex

theorem l1ByteC (g : Nat) (A : Option Addr) (m c : Nat) (bs : List Int) (w : World) (hc : CurB w g A m c bs) :
    Calls Try.prog 46 #[.pointer (some ⟨g, 0, none⟩)] w fun e w' => ∃ x : Int, 0 ≤ x ∧ x ≤ 255 ∧ e = .returned (.int .i64 x) ∧ CurB w' g A m c bs ∧ w.grownBy w' (some g) := by
  refine (l1Byte_any g A m c bs w hc.2.2.2.2 hc.1 hc.2.1 hc.2.2.2.1).mono ?_
  rintro e w' ⟨x, h0, h1, rfl, h3, h4⟩
  exact ⟨x, h0, h1, rfl, hc.gr h3 h4, h4⟩

set_option maxHeartbeats 1000000 in
theorem l1BelowW (g : Nat) (A : Option Addr) (m c : Nat) (bs : List Int) (n : Int) (w : World) (hn : 257 ≤ n) (hn2 : n ≤ 100000) (hc : CurB w g A m c bs) :
    Calls Try.prog 19 #[.pointer (some ⟨g, 0, none⟩), .int .i64 n] w fun e w' => ∃ x : Nat, (x : Int) < n ∧ e = .returned (.int .i64 x) ∧ CurB w' g A m c bs ∧ w.grownBy w' (some g) := by
  have hnz : ¬ n = 0 := by omega
  have hn0 : ¬ n ≤ 0 := by omega
  have hn1 : ¬ n ≤ 256 := by omega
  go_enter Try.func19, Try.ntmps19
  go_wp2_with fail
  refine (l1ByteC g A m c bs _ hc).mono ?_
  rintro e w1 ⟨x, x0, x1, rfl, hc1, hg1⟩
  go_wp2_with fail
  refine (l1ByteC g A m c bs _ hc1).mono ?_
  rintro e w2 ⟨y, y0, y1, rfl, hc2, hg2⟩
  go_wp2_with fail
  refine (l1ByteC g A m c bs _ hc2).mono ?_
  rintro e w3 ⟨z, z0, z1, rfl, hc3, hg3⟩
  have e1 : IntKind.i64.wrap (x * 65536) = x * 65536 := by rw [IntKind.wrap_i64]; omega
  have e2 : IntKind.i64.wrap (y * 256) = y * 256 := by rw [IntKind.wrap_i64]; omega
  have e3 : IntKind.i64.wrap (x * 65536 + y * 256) = x * 65536 + y * 256 := by rw [IntKind.wrap_i64]; omega
  have e4 : IntKind.i64.wrap (x * 65536 + y * 256 + z) = x * 65536 + y * 256 + z := by rw [IntKind.wrap_i64]; omega
  go_wp2
  go_ret
  have f0 := Int.emod_nonneg (x * 65536 + y * 256 + z) hnz
  have f1 := Int.emod_lt_of_pos (x * 65536 + y * 256 + z) (show 0 < n by omega)
  exact ⟨((x * 65536 + y * 256 + z) % n).toNat, by omega, by rw [Int.toNat_of_nonneg f0]; rfl, hc3, grown_trans (grown_trans hg1 hg2) hg3⟩

theorem l1SomeN (g : Nat) (A : Option Addr) (m c : Nat) (bs : List Int) (lo hi : Int) (w : World) (h0 : -1000 ≤ lo) (h1 : lo ≤ hi) (h2 : hi - lo ≤ 255) (h3 : hi ≤ 1000) (hc : CurB w g A m c bs) :
    Calls Try.prog 21 #[.pointer (some ⟨g, 0, none⟩), .int .i64 lo, .int .i64 hi] w fun e w' => ∃ x : Int, lo ≤ x ∧ x ≤ hi ∧ e = .returned (.int .i64 x) ∧ CurB w' g A m c bs ∧ w.grownBy w' (some g) := by
  go_enter Try.func21, Try.ntmps21
  go_wp2_with fail
  refine (l1BelowC g A m c bs (hi - lo + 1) _ (by omega) (by omega) hc).mono ?_
  rintro e w1 ⟨x, hx, rfl, hc1, hg1⟩
  go_wp2
  go_ret
  exact ⟨lo + (x : Int), by omega, by omega, rfl, hc1, hg1⟩
theorem l1SomeW (g : Nat) (A : Option Addr) (m c : Nat) (bs : List Int) (lo hi : Int) (w : World) (h0 : -1000 ≤ lo) (h1 : 256 ≤ hi - lo) (h3 : hi ≤ 1000) (hc : CurB w g A m c bs) :
    Calls Try.prog 21 #[.pointer (some ⟨g, 0, none⟩), .int .i64 lo, .int .i64 hi] w fun e w' => ∃ x : Int, lo ≤ x ∧ x ≤ hi ∧ e = .returned (.int .i64 x) ∧ CurB w' g A m c bs ∧ w.grownBy w' (some g) := by
  go_enter Try.func21, Try.ntmps21
  go_wp2_with fail
  refine (l1BelowW g A m c bs (hi - lo + 1) _ (by omega) (by omega) hc).mono ?_
  rintro e w1 ⟨x, hx, rfl, hc1, hg1⟩
  go_wp2
  go_ret
  exact ⟨lo + (x : Int), by omega, by omega, rfl, hc1, hg1⟩

def speedOk (p : Nat × Nat) : Prop := okW p.1 = true ∧ okW p.2 = true
def fineOk (x : Nat) : Prop := okW x = true ∧ okW (Go.Op.negFloat .f32 x) = true
set_option maxHeartbeats 2000000 in
theorem l1FineC (g : Nat) (A : Option Addr) (m c : Nat) (bs : List Int) (w : World) (hc : CurB w g A m c bs) :
    Calls Try.prog 73 #[.pointer (some ⟨g, 0, none⟩)] w fun e w' => ∃ x : Nat, fineOk x ∧ e = .returned (.float .f32 x) ∧ CurB w' g A m c bs ∧ w.grownBy w' (some g) := by
  go_enter Try.func73, Try.ntmps73
  go_wp2_with fail
  refine (l1SomeW g A m c bs (-640) 640 _ (by omega) (by omega) (by omega) hc).mono ?_
  rintro e w1 ⟨a, a0, a1, rfl, hc1, hg1⟩
  go_wp2_with fail
  obtain ⟨W, hWe⟩ : ∃ W, W = w1.alloc (Obj.cells #[.float .f32 1065353216, .float .f32 1073741824, .float .f32 1098907648, .float .f32 1115684864, .float .f32 1120403456, .float .f32 1077936128] 25) := ⟨_, rfl⟩
  have hW : Below w1.heap.size w1 W := by rw [hWe]; (repeat (first | with_reducible assumption | exact Below.refl _ _ | (refine Below.setCell ?_ (by first | exact Nat.le_refl _ | (simp; done) | omega | (simp; omega)) _) | (refine below_drewN ?_ _) | (refine Below.drew ?_) | (refine Below.alloc ?_ (by first | exact Nat.le_refl _ | (simp; done) | omega | (simp; omega)) _) | (refine then_ ?_ (by with_reducible assumption)) | assumption | (refine then_ ?_ (by assumption))))
  have zW : w1.heap.size < W.heap.size := by rw [hWe]; simp
  have q0 : W.cell? ⟨w1.heap.size, 0, none⟩ = some (.float .f32 1065353216) := by rw [hWe]; simp [go_sem]
  have q1 : W.cell? ⟨w1.heap.size, 1, none⟩ = some (.float .f32 1073741824) := by rw [hWe]; simp [go_sem]
  have q2 : W.cell? ⟨w1.heap.size, 2, none⟩ = some (.float .f32 1098907648) := by rw [hWe]; simp [go_sem]
  have q3 : W.cell? ⟨w1.heap.size, 3, none⟩ = some (.float .f32 1115684864) := by rw [hWe]; simp [go_sem]
  have q4 : W.cell? ⟨w1.heap.size, 4, none⟩ = some (.float .f32 1120403456) := by rw [hWe]; simp [go_sem]
  have q5 : W.cell? ⟨w1.heap.size, 5, none⟩ = some (.float .f32 1077936128) := by rw [hWe]; simp [go_sem]
  rw [← hWe]
  clear hWe
  have hne : w1.heap.size ≠ g := by have := hc1.2.2.1; omega
  refine (l1BelowC g A m c bs 6 _ (by omega) (by omega) (hc1.step hW)).mono ?_
  rintro e w2 ⟨y, hy, rfl, hc2, hg2⟩
  have hk := fun o => (gcell hg2).1 w1.heap.size o zW hne
  have c0 := (hk 0).trans q0
  have c1 := (hk 1).trans q1
  have c2 := (hk 2).trans q2
  have c3 := (hk 3).trans q3
  have c4 := (hk 4).trans q4
  have c5 := (hk 5).trans q5
  have G2 := grown_trans (grown_trans hg1 (grown_of_below hW (some g))) hg2
  clear q0 q1 q2 q3 q4 q5 hk hg1 hW hc1 hg2
  obtain ⟨d, hd, hcell⟩ : ∃ d, quoOk a d = true ∧ w2.cell? ⟨w1.heap.size, y, none⟩ = some (.float .f32 d) := by
    have e : y = 0 ∨ y = 1 ∨ y = 2 ∨ y = 3 ∨ y = 4 ∨ y = 5 := by omega
    rcases e with rfl | rfl | rfl | rfl | rfl | rfl
    · exact ⟨_, at_shift fine_1 rfl (by omega) a0 a1, c0⟩
    · exact ⟨_, at_shift fine_2 rfl (by omega) a0 a1, c1⟩
    · exact ⟨_, at_shift fine_16 rfl (by omega) a0 a1, c2⟩
    · exact ⟨_, at_shift fine_64 rfl (by omega) a0 a1, c3⟩
    · exact ⟨_, at_shift fine_100 rfl (by omega) a0 a1, c4⟩
    · exact ⟨_, at_shift fine_3 rfl (by omega) a0 a1, c5⟩
  obtain ⟨q1, q2, q3⟩ := quoOk_spec hd
  have Q2 := Lib.hid (show fineOk (quoW a d) from ⟨q2, q3⟩)
  obtain ⟨r, hr⟩ : ∃ r, r = quoW a d := ⟨_, rfl⟩
  rw [← hr] at q1 Q2
  have hq := fun wx => run_float_arith (P := Try.prog) wx .quo 25 .f32 (fl a) d r q1
  unfold fl at hq
  clear q1 q2 q3 hr c0 c1 c2 c3 c4 c5 hd
  have hy6 : (y : Int) < 6 := hy
  have hy0 : (0 : Int) ≤ (y : Int) := by omega
  go_wp2
  go_ret
  exact ⟨r, Q2.out, rfl, hc2, G2⟩
theorem run_neg_f32 {P : Program} (x : Nat) (w : World) : (Op.unary .neg (.float .f32 x)).run P w = .ok (.float .f32 (Go.Op.negFloat .f32 x)) w := rfl
theorem fine_zero : okW 0 = true := by decide +kernel
set_option maxHeartbeats 2000000 in
theorem l1PointC (g : Nat) (A : Option Addr) (m c : Nat) (bs : List Int) (w : World) (hc : CurB w g A m c bs) :
    Calls Try.prog 64 #[.pointer (some ⟨g, 0, none⟩)] w fun e w' => ∃ p : Nat × Nat, speedOk p ∧ e = .returned (.complex .f32 p.1 p.2) ∧ CurB w' g A m c bs ∧ w.grownBy w' (some g) := by
  go_enter Try.func64, Try.ntmps64
  go_wp2_with fail
  refine (l1FineC g A m c bs _ hc).mono ?_
  rintro e w1 ⟨x, hx, rfl, hc1, hg1⟩
  have HX := Lib.hid hx
  clear hx
  go_wp2_with fail
  refine (l1BelowC g A m c bs 7 _ (by omega) (by omega) hc1).mono ?_
  rintro e w2 ⟨y, hy, rfl, hc2, hg2⟩
  have G2 := grown_trans hg1 hg2
  by_cases y0 : y = 0
  · subst y0
    go_wp2
    go_ret
    exact ⟨(x, 0), ⟨HX.out.1, fine_zero⟩, rfl, hc2, G2⟩
  by_cases y1 : y = 1
  · subst y1
    go_wp2
    go_ret
    exact ⟨(0, x), ⟨fine_zero, HX.out.1⟩, rfl, hc2, G2⟩
  by_cases y2 : y = 2
  · subst y2
    go_wp2
    go_ret
    exact ⟨(x, x), ⟨HX.out.1, HX.out.1⟩, rfl, hc2, G2⟩
  by_cases y3 : y = 3
  · subst y3
    have hneg := fun wx => run_neg_f32 (P := Try.prog) x wx
    go_wp2
    go_ret
    exact ⟨(x, Go.Op.negFloat .f32 x), ⟨HX.out.1, HX.out.2⟩, rfl, hc2, G2⟩
  have n0 : ¬ (y : Int) = 0 := by omega
  have n1 : ¬ (y : Int) = 1 := by omega
  have n2 : ¬ (y : Int) = 2 := by omega
  have n3 : ¬ (y : Int) = 3 := by omega
  go_wp2_with fail
  refine (l1FineC g A m c bs _ hc2).mono ?_
  rintro e w3 ⟨z, hz, rfl, hc3, hg3⟩
  have HZ := Lib.hid hz
  clear hz
  go_wp2
  go_ret
  exact ⟨(x, z), ⟨HX.out.1, HZ.out.1⟩, rfl, hc3, grown_trans G2 hg3⟩
end Go.Proofs.Ytchkcleenmoajaa
