
/- Draws of numbers and of colours. -/
import Derived.Test.YtchkcleenmoajaaDrawSyms
import Derived.Test.YtchkcleenmoajaaM9
import Derived.Test.YtchkcleenmoajaaGeoI
import Derived.Test.YtchkcleenmoajaaEq2
namespace Go.Proofs.Ytchkcleenmoajaa
open Go.RowKit
attribute [local go_sem] run_store_float run_store_complex

/-- the cursor and its bytes -/
def CurB (w : World) (g : Nat) (A : Option Addr) (m c : Nat) (bs : List Int) : Prop := Cur w g A m c ∧ Rd byteC 1 w g A m bs ∧ g < w.heap.size ∧ (∀ x ∈ bs, 0 ≤ x ∧ x ≤ 255) ∧ m ≤ maxLen
theorem Cur.lt {w : World} {g : Nat} {A : Option Addr} {m c : Nat} (h : Cur w g A m c) : g < w.heap.size := by
  obtain ⟨i, h, _, hh⟩ := h
  rcases Nat.lt_or_ge g w.heap.size with hlt | hge
  · exact hlt
  · rw [Array.getElem?_eq_none hge] at hh; cases hh
theorem CurB.gr {w w' : World} {g : Nat} {A : Option Addr} {m c : Nat} {bs : List Int} (h : CurB w g A m c bs) (hc : Cur w' g A m c) (hg : w.grownBy w' (some g)) : CurB w' g A m c bs :=
  ⟨hc, h.2.1.keep (fun p hp => World.cell?_of_block (hg.block p.block (by have := h.2.2.1; omega) (fun e => by injection e with e; omega))), hc.lt, h.2.2.2⟩
theorem CurB.step {w w' : World} {g : Nat} {A : Option Addr} {m c : Nat} {bs : List Int} (h : CurB w g A m c bs) (hb : Below w.heap.size w w') : CurB w' g A m c bs := by
  obtain ⟨⟨i, x, hi, hh⟩, h2, h3, h4⟩ := h
  exact ⟨⟨i, x, hi, (hb.block g h3).trans hh⟩, h2.keep (fun p hp => hb.cell (p := p) (by omega)), Nat.lt_of_lt_of_le h3 hb.size, h4⟩

theorem l1BelowC (g : Nat) (A : Option Addr) (m c : Nat) (bs : List Int) (n : Int) (w : World) (hn : 1 ≤ n) (hn2 : n ≤ 256) (hc : CurB w g A m c bs) :
    Calls Try.prog 19 #[.pointer (some ⟨g, 0, none⟩), .int .i64 n] w fun e w' => ∃ x : Nat, (x : Int) < n ∧ e = .returned (.int .i64 x) ∧ CurB w' g A m c bs ∧ w.grownBy w' (some g) := by
  refine (l1Below_any g A m c bs n w hn hn2 hc.2.2.2.2 hc.1 hc.2.1 hc.2.2.2.1).mono ?_
  rintro e w' ⟨x, hx, rfl, h1, h2⟩
  exact ⟨x, hx, rfl, hc.gr h1 h2, h2⟩

theorem l1OnceC (g : Nat) (A : Option Addr) (m c : Nat) (bs : List Int) (n : Int) (w : World) (hn : 1 ≤ n) (hn2 : n ≤ 256) (hc : CurB w g A m c bs) :
    Calls Try.prog 63 #[.pointer (some ⟨g, 0, none⟩), .int .i64 n] w fun e w' => ∃ b : Bool, e = .returned (.bool b) ∧ CurB w' g A m c bs ∧ w.grownBy w' (some g) := by
  go_enter Try.func63, Try.ntmps63
  go_wp2_with (go_at_call 19; refine (l1BelowC g A m c bs n _ hn hn2 hc).mono ?_; rintro e w1 ⟨x, hx, rfl, hc1, hg1⟩)
  go_ret
  exact ⟨_, rfl, hc1, hg1⟩

theorem l1SomeC (g : Nat) (A : Option Addr) (m c : Nat) (bs : List Int) (lo hi : Int) (w : World) (h0 : 0 ≤ lo) (h1 : lo ≤ hi) (h2 : hi ≤ 200) (hc : CurB w g A m c bs) :
    Calls Try.prog 21 #[.pointer (some ⟨g, 0, none⟩), .int .i64 lo, .int .i64 hi] w fun e w' => ∃ x : Int, lo ≤ x ∧ x ≤ hi ∧ e = .returned (.int .i64 x) ∧ CurB w' g A m c bs ∧ w.grownBy w' (some g) := by
  go_enter Try.func21, Try.ntmps21
  go_wp2_with fail
  refine (l1BelowC g A m c bs (hi - lo + 1) _ (by omega) (by omega) hc).mono ?_
  rintro e w1 ⟨x, hx, rfl, hc1, hg1⟩
  go_wp2
  go_ret
  exact ⟨lo + (x : Int), by omega, by omega, rfl, hc1, hg1⟩

def quoB (k : Nat) : Nat := match floatBits .quo .f32 (fl k) 1120403456 with | some r => r | none => 0
theorem quo_all : ∀ k : Nat, k < 101 → floatBits .quo .f32 (fl k) 1120403456 = some (quoB k) ∧ partB (quoB k) = true := by decide +kernel
theorem part_1 : partB 0 = true := by decide +kernel
theorem part_2 : partB 1065353216 = true := by decide +kernel
theorem part_3 : partB 1056964608 = true := by decide +kernel
theorem part_4 : partB 1048576000 = true := by decide +kernel

set_option maxHeartbeats 1000000 in
theorem l2OneC (g : Nat) (A : Option Addr) (m c : Nat) (bs : List Int) (w : World) (hc : CurB w g A m c bs) :
    Calls Try.prog 48 #[.pointer (some ⟨g, 0, none⟩)] w fun e w' => ∃ x : Nat, partB x = true ∧ e = .returned (.float .f32 x) ∧ CurB w' g A m c bs ∧ w.grownBy w' (some g) := by
  go_enter Try.func48, Try.ntmps48
  go_wp2_with fail
  refine (l1OnceC g A m c bs 3 _ (by omega) (by omega) hc).mono ?_
  rintro e w1 ⟨b, rfl, hc1, hg1⟩
  cases b
  · go_wp2_with fail
    refine (l1BelowC g A m c bs 101 _ (by omega) (by omega) hc1).mono ?_
    rintro e w2 ⟨y, hy, rfl, hc2, hg2⟩
    obtain ⟨q1, q2⟩ := quo_all y (by omega)
    have Q2 := Lib.hid q2
    obtain ⟨r, hr⟩ : ∃ r, r = quoB y := ⟨_, rfl⟩
    rw [← hr] at q1 Q2
    have hq := fun wx => run_float_arith (P := Try.prog) wx .quo 25 .f32 (fl y) 1120403456 r q1
    unfold fl at hq
    clear q1 q2 hr
    go_wp2
    go_ret
    exact ⟨r, Q2.out, rfl, hc2, grown_trans hg1 hg2⟩
  · go_wp2_with fail
    obtain ⟨W, hWe⟩ : ∃ W, W = w1.alloc (Obj.cells #[.float .f32 0, .float .f32 1065353216, .float .f32 1056964608, .float .f32 1048576000] 25) := ⟨_, rfl⟩
    have hW : Below w1.heap.size w1 W := by rw [hWe]; (repeat (first | with_reducible assumption | exact Below.refl _ _ | (refine Below.setCell ?_ (by first | exact Nat.le_refl _ | (simp; done) | omega | (simp; omega)) _) | (refine below_drewN ?_ _) | (refine Below.drew ?_) | (refine Below.alloc ?_ (by first | exact Nat.le_refl _ | (simp; done) | omega | (simp; omega)) _) | (refine then_ ?_ (by with_reducible assumption)) | assumption | (refine then_ ?_ (by assumption))))
    have zW : w1.heap.size < W.heap.size := by rw [hWe]; simp
    have q0 : W.cell? ⟨w1.heap.size, 0, none⟩ = some (.float .f32 0) := by rw [hWe]; simp [go_sem]
    have q1 : W.cell? ⟨w1.heap.size, 1, none⟩ = some (.float .f32 1065353216) := by rw [hWe]; simp [go_sem]
    have q2 : W.cell? ⟨w1.heap.size, 2, none⟩ = some (.float .f32 1056964608) := by rw [hWe]; simp [go_sem]
    have q3 : W.cell? ⟨w1.heap.size, 3, none⟩ = some (.float .f32 1048576000) := by rw [hWe]; simp [go_sem]
    rw [← hWe]
    clear hWe
    have hne : w1.heap.size ≠ g := by have := hc1.2.2.1; omega
    refine (l1BelowC g A m c bs 4 _ (by omega) (by omega) (hc1.step hW)).mono ?_
    rintro e w2 ⟨y, hy, rfl, hc2, hg2⟩
    have hk := fun o => (gcell hg2).1 w1.heap.size o zW hne
    have c0 := (hk 0).trans q0
    have c1 := (hk 1).trans q1
    have c2 := (hk 2).trans q2
    have c3 := (hk 3).trans q3
    have G2 := grown_trans (grown_trans hg1 (grown_of_below hW (some g))) hg2
    clear q0 q1 q2 q3 hk hg1 hW hc1 hg2
    have e : y = 0 ∨ y = 1 ∨ y = 2 ∨ y = 3 := by omega
    rcases e with rfl | rfl | rfl | rfl
    · go_wp2
      go_ret
      exact ⟨_, part_1, rfl, hc2, G2⟩
    · go_wp2
      go_ret
      exact ⟨_, part_2, rfl, hc2, G2⟩
    · go_wp2
      go_ret
      exact ⟨_, part_3, rfl, hc2, G2⟩
    · go_wp2
      go_ret
      exact ⟨_, part_4, rfl, hc2, G2⟩

theorem grown_new {a w : World} {row : Option Nat} {p : Addr} (h : a.grownBy w row) (hp : a.heap.size ≤ p.block) (u : Value) : a.grownBy (w.setCell p u) row :=
  ⟨h.os, h.tape, h.output, by simpa [World.setCell] using h.size, fun i hi hne => (Below.heap_setCell w p u i (by omega)).trans (h.block i hi hne)⟩
theorem curB_set {w : World} {g : Nat} {A : Option Addr} {m c : Nat} {bs : List Int} {p : Addr} (h : CurB w g A m c bs) (hp : g < p.block) (u : Value) : CurB (w.setCell p u) g A m c bs := by
  obtain ⟨⟨i, x, hi, hh⟩, h2, h3, h4⟩ := h
  refine ⟨⟨i, x, hi, (Below.heap_setCell w p u g (by omega)).trans hh⟩, h2.keep (fun q hq => World.cell?_setCell_other w p q u (fun e => ?_)), by simpa [World.setCell] using h3, h4⟩
  rw [e] at hp; omega

set_option maxHeartbeats 1000000 in
theorem l2DrawC (g : Nat) (A : Option Addr) (m c : Nat) (bs : List Int) (w : World) (hc : CurB w g A m c bs) :
    Calls Try.prog 22 #[.pointer (some ⟨g, 0, none⟩)] w fun e w' => ∃ x y z : Nat, colB (x, y, z) = true ∧ e = .returned (.agg #[.float .f32 x, .float .f32 y, .float .f32 z]) ∧ CurB w' g A m c bs ∧ w.grownBy w' (some g) := by
  have hgw := hc.2.2.1
  go_enter Try.func22, Try.ntmps22
  go_wp2_with fail
  obtain ⟨W, hWe⟩ : ∃ W, W = w.alloc (Obj.cells #[.float .f32 0, .float .f32 0, .float .f32 0] 27) := ⟨_, rfl⟩
  have hW : Below w.heap.size w W := by rw [hWe]; (repeat (first | with_reducible assumption | exact Below.refl _ _ | (refine Below.setCell ?_ (by first | exact Nat.le_refl _ | (simp; done) | omega | (simp; omega)) _) | (refine below_drewN ?_ _) | (refine Below.drew ?_) | (refine Below.alloc ?_ (by first | exact Nat.le_refl _ | (simp; done) | omega | (simp; omega)) _) | (refine then_ ?_ (by with_reducible assumption)) | assumption | (refine then_ ?_ (by assumption))))
  have zW : w.heap.size < W.heap.size := by rw [hWe]; simp
  have q0 : W.cell? ⟨w.heap.size, 0, none⟩ = some (.float .f32 0) := by rw [hWe]; simp [go_sem]
  have q1 : W.cell? ⟨w.heap.size, 1, none⟩ = some (.float .f32 0) := by rw [hWe]; simp [go_sem]
  have q2 : W.cell? ⟨w.heap.size, 2, none⟩ = some (.float .f32 0) := by rw [hWe]; simp [go_sem]
  have f0 : ∀ j, W.frozen? ⟨w.heap.size, j, none⟩ = false := by intro j; rw [hWe]; simp [go_sem]
  rw [← hWe]
  clear hWe
  have hne : w.heap.size ≠ g := by omega
  refine (l2OneC g A m c bs _ (hc.step hW)).mono ?_
  rintro e w1 ⟨x, hx, rfl, hc1, hg1⟩
  go_wp2_with fail
  refine (l2OneC g A m c bs _ hc1).mono ?_
  rintro e w2 ⟨y, hy, rfl, hc2, hg2⟩
  go_wp2_with fail
  refine (l2OneC g A m c bs _ hc2).mono ?_
  rintro e w3 ⟨z, hz, rfl, hc3, hg3⟩
  have G := grown_trans (grown_trans hg1 hg2) hg3
  have hk := fun o => (gcell G).1 w.heap.size o zW hne
  have hfk := fun o => ((gcell G).2 w.heap.size o zW hne).trans (f0 o)
  have c0 := (hk 0).trans q0
  have c1 := (hk 1).trans q1
  have c2 := (hk 2).trans q2
  have GW := grown_trans (grown_of_below hW (some g)) G
  have X := Lib.hid (show colB (x, y, z) = true by unfold colB; rw [hx, hy, hz]; rfl)
  clear q0 q1 q2 hk f0 hg1 hg2 hg3 hW hc1 hc2 G hx hy hz
  go_wp2
  exact bodyPost_ret (v := .agg #[.float .f32 x, .float .f32 y, .float .f32 z]) (by simp [results, Try.results22, go_sem, *]) rfl ⟨x, y, z, X.out, rfl, curB_set (curB_set (curB_set hc3 hgw _) hgw _) hgw _, grown_new (grown_new (grown_new GW (Nat.le_refl _) _) (Nat.le_refl _) _) (Nat.le_refl _) _⟩
end Go.Proofs.Ytchkcleenmoajaa
