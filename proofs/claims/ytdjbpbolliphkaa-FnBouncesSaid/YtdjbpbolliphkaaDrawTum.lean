
/- The draw of a tumble. -/
import Derived.Test.YtdjbpbolliphkaaDrawT
import Derived.Test.YtdjbpbolliphkaaDrawH
import Derived.Test.YtdjbpbolliphkaaTumS
import Derived.Deep.CutRange
namespace Go.Proofs.Ytdjbpbolliphkaa
open Go.RowKit
attribute [local go_sem] run_store_float run_store_complex

set_option maxHeartbeats 1000000 in
/-- one of a list of numbers -/
theorem l1IntC (P : Int → Prop) (g b n k : Nat) (A : Option Addr) (m c : Nat) (bs : List Int) (w : World) (hc : CurB w g A m c bs) (hn1 : 1 ≤ n) (hn : n ≤ 256) (hb : b < w.heap.size) (hne : b ≠ g) (hx : ∀ y, y < n → ∃ x, P x ∧ w.cell? ⟨b, y, none⟩ = some (.int .i64 x)) :
    Calls Try.prog 59 #[.pointer (some ⟨g, 0, none⟩), .slice (some ⟨b, 0, none⟩) n k] w fun e w' => ∃ x, P x ∧ e = .returned (.int .i64 x) ∧ CurB w' g A m c bs ∧ w.grownBy w' (some g) := by
  go_enter Try.func59, Try.ntmps59
  go_wp2_with fail
  refine (l1BelowC g A m c bs n _ (by omega) (by omega) hc).mono ?_
  rintro e w1 ⟨y, hy, rfl, hc1, hg1⟩
  obtain ⟨x, px, cx⟩ := hx y (by omega)
  have cx := ((gcell hg1).1 b y hb hne).trans cx
  have PX := Lib.hid px
  have hy0 : (0 : Int) ≤ (y : Int) := by omega
  clear hx px
  go_wp2
  go_ret
  exact ⟨x, PX.out, rfl, hc1, hg1⟩

theorem wedge_zero : okW 0 = true := by decide +kernel
theorem okW_reach {x : Nat} (h : okW x = true) : reachB x = true := by unfold okW at h; rw [Bool.and_eq_true] at h; exact h.1
theorem speed_point {p : Nat × Nat} (h : speedOk p) : pointB p.1 p.2 = true := by
  unfold pointB; rw [okW_reach h.1, okW_reach h.2]; rfl

theorem keepGF_then {w w1 : World} {g b o : Nat} {v : Value} {Goal : Prop} (hg : w.grownBy w1 (some g)) (hne : b ≠ g) (h : w.cell? ⟨b, o, none⟩ = some v) (hf : w.frozen? ⟨b, o, none⟩ = false) (k : w1.cell? ⟨b, o, none⟩ = some v → w1.frozen? ⟨b, o, none⟩ = false → b < w1.heap.size → Goal) : Goal :=
  have hb := World.block_lt_of_cell? _ _ h
  have h1 := ((gcell hg).1 b o hb hne).trans h
  k h1 (((gcell hg).2 b o hb hne).trans hf) (World.block_lt_of_cell? _ _ h1)
theorem drawS1 {wr w' w'' : World} {b g : Nat} {v : Value} {A : Option Addr} {m c : Nat} {bs : List Int} (h : w'.cell? ⟨b, 0, none⟩ = some v ∧ wr.grownBy w' (some g) ∧ CurB w' g A m c bs) (hz : b < wr.heap.size) (hne : b ≠ g) (hc : CurB w'' g A m c bs) (hg : w'.grownBy w'' (some g)) :
    w''.cell? ⟨b, 0, none⟩ = some v ∧ wr.grownBy w'' (some g) ∧ CurB w'' g A m c bs :=
  ⟨((gcell hg).1 b 0 (Nat.lt_of_lt_of_le hz h.2.1.size) hne).trans h.1, grown_trans h.2.1 hg, hc⟩
theorem drawS2 {wr w' w'' : World} {b g : Nat} {v : Value} {A : Option Addr} {m c : Nat} {bs : List Int} (h : w'.cell? ⟨b, 0, none⟩ = some v ∧ wr.grownBy w' (some g) ∧ CurB w' g A m c bs) (_ : b < wr.heap.size) (hb : Below w'.heap.size w' w'') :
    w''.cell? ⟨b, 0, none⟩ = some v ∧ wr.grownBy w'' (some g) ∧ CurB w'' g A m c bs :=
  ⟨keepC h.1 hb, grown_trans h.2.1 (grown_of_below hb _), h.2.2.step hb⟩

theorem drawS5 {wr w' : World} {b g : Nat} {v : Value} {A : Option Addr} {m c : Nat} {bs : List Int} (h : w'.cell? ⟨b, 0, none⟩ = some v ∧ wr.grownBy w' (some g) ∧ CurB w' g A m c bs) (hz : b < wr.heap.size) (o : Obj) :
    (w'.alloc o).cell? ⟨b, 0, none⟩ = some v ∧ wr.grownBy (w'.alloc o) (some g) ∧ CurB (w'.alloc o) g A m c bs := drawS2 h hz (by (repeat (first | with_reducible assumption | exact Below.refl _ _ | (refine Below.setCell ?_ (by first | exact Nat.le_refl _ | (simp; done) | omega | (simp; omega)) _) | (refine below_drewN ?_ _) | (refine Below.drew ?_) | (refine Below.alloc ?_ (by first | exact Nat.le_refl _ | (simp; done) | omega | (simp; omega)) _) | (refine then_ ?_ (by with_reducible assumption)) | assumption | (refine then_ ?_ (by assumption)))))

theorem gSz {w w1 : World} {g : Nat} (h : w.drew.grownBy w1 (some g)) : w.heap.size ≤ w1.heap.size := h.size
theorem drawS6 {wr w' : World} {b g : Nat} {v : Value} {A : Option Addr} {m c : Nat} {bs : List Int} {p : Addr} (h : w'.cell? ⟨b, 0, none⟩ = some v ∧ wr.grownBy w' (some g) ∧ CurB w' g A m c bs) (hz : b < wr.heap.size) (hgr : g < wr.heap.size) (hp : wr.heap.size ≤ p.block) (u : Value) :
    (w'.setCell p u).cell? ⟨b, 0, none⟩ = some v ∧ wr.grownBy (w'.setCell p u) (some g) ∧ CurB (w'.setCell p u) g A m c bs :=
  ⟨(World.cell?_of_block (Below.heap_setCell w' p u b (by omega))).trans h.1, grown_new h.2.1 hp u, curB_set h.2.2 (by omega) u⟩

set_option maxRecDepth 100000 in
set_option maxHeartbeats 8000000 in
theorem l5DrawC (g : Nat) (A : Option Addr) (m c : Nat) (bs : List Int) (w : World) (hc : CurB w g A m c bs) :
    Calls Try.prog 37 #[.pointer (some ⟨g, 0, none⟩)] w fun e w' => ∃ (mir : Int) (gr : Pt) (loss : Nat) (xs : List Bd) (O : Option Addr) (C : Nat), xs.length ≤ 8 ∧ tumB mir gr loss xs = true ∧ e = .returned (tumV mir gr loss (.slice O xs.length C)) ∧ w'.ownsRow w.heap.size 33 2 (.slice O xs.length C) xs.length (flat bdC xs) ∧ CurB w' g A m c bs ∧ w.grownBy w' (some g) := by
  have hgw := hc.2.2.1
  obtain ⟨i0, hi, hz0, hz1, hz2⟩ := info_parts infoBd
  go_enter Try.func37, Try.ntmps37
  go_wp2_with fail
  obtain ⟨W, hWe⟩ : ∃ W, W = (w.alloc (Obj.cells #[.int .i64 0, .complex .f32 0 0, .float .f32 0, .slice none 0 0] 37)).alloc (Obj.cells #[.int .i64 0, .int .i64 1, .int .i64 2, .int .i64 3, .int .i64 3] 3) := ⟨_, rfl⟩
  have hW : Below w.heap.size w W := by rw [hWe]; (repeat (first | with_reducible assumption | exact Below.refl _ _ | (refine Below.setCell ?_ (by first | exact Nat.le_refl _ | (simp; done) | omega | (simp; omega)) _) | (refine below_drewN ?_ _) | (refine Below.drew ?_) | (refine Below.alloc ?_ (by first | exact Nat.le_refl _ | (simp; done) | omega | (simp; omega)) _) | (refine then_ ?_ (by with_reducible assumption)) | assumption | (refine then_ ?_ (by assumption))))
  have zW : W.heap.size = w.heap.size + 2 := by rw [hWe]; simp
  have q0 : W.cell? ⟨w.heap.size, 0, none⟩ = some (.int .i64 0) := by rw [hWe]; simp [go_sem]
  have q1 : W.cell? ⟨w.heap.size, 1, none⟩ = some (.complex .f32 0 0) := by rw [hWe]; simp [go_sem]
  have q2 : W.cell? ⟨w.heap.size, 2, none⟩ = some (.float .f32 0) := by rw [hWe]; simp [go_sem]
  have q3 : W.cell? ⟨w.heap.size, 3, none⟩ = some (.slice none 0 0) := by rw [hWe]; simp [go_sem]
  have f0 : ∀ j, W.frozen? ⟨w.heap.size, j, none⟩ = false := by intro j; rw [hWe]; simp [go_sem]
  have hl : ∀ y, y < 5 → ∃ x, (inB x 0 3 = true) ∧ W.cell? ⟨w.heap.size + 1, y, none⟩ = some (.int .i64 x) := by
    intro y hy
    have e : y = 0 ∨ y = 1 ∨ y = 2 ∨ y = 3 ∨ y = 4 := by omega
    rw [hWe]
    rcases e with rfl | rfl | rfl | rfl | rfl
    · exact ⟨0, rfl, by simp [go_sem]⟩
    · exact ⟨1, rfl, by simp [go_sem]⟩
    · exact ⟨2, rfl, by simp [go_sem]⟩
    · exact ⟨3, rfl, by simp [go_sem]⟩
    · exact ⟨3, rfl, by simp [go_sem]⟩
  rw [← hWe]
  clear hWe
  have hne : w.heap.size ≠ g := by omega
  have GW := grown_of_below hW (some g)
  refine (l1IntC (fun x => inB x 0 3 = true) g (w.heap.size + 1) 5 5 A m c bs _ (hc.step hW) (by omega) (by omega) (by omega) (by omega) hl).mono ?_
  rintro e w1 ⟨mir, hmir, rfl, hc1, hg1⟩
  have MIR := Lib.hid hmir
  clear hmir hl
  go_wp2_with fail
  refine (l2OneC g A m c bs _ hc1).mono ?_
  rintro e w2 ⟨loss, hloss, rfl, hc2, hg2⟩
  have LOSS := Lib.hid hloss
  clear hloss
  have hg12 := grown_trans hg1 hg2
  have z1 := hg12.size
  have zW0 : w.heap.size < W.heap.size := by omega
  have q0 := ((gcell hg12).1 w.heap.size 0 zW0 hne).trans q0
  have q1 := ((gcell hg12).1 w.heap.size 1 zW0 hne).trans q1
  have q2 := ((gcell hg12).1 w.heap.size 2 zW0 hne).trans q2
  have q3 := ((gcell hg12).1 w.heap.size 3 zW0 hne).trans q3
  have f0 := fun j => ((gcell hg12).2 w.heap.size j zW0 hne).trans (f0 j)
  have G1 := grown_trans GW hg12
  clear hc hc1 GW hW hg1 hg2 hg12
  go_wp2_with fail
  obtain ⟨V, hVe⟩ : ∃ V, V = w2.alloc (Obj.cells #[.int .i64 mir, .complex .f32 0 0, .float .f32 loss, .slice none 0 0] 37) := ⟨_, rfl⟩
  have hV : Below w2.heap.size w2 V := by rw [hVe]; (repeat (first | with_reducible assumption | exact Below.refl _ _ | (refine Below.setCell ?_ (by first | exact Nat.le_refl _ | (simp; done) | omega | (simp; omega)) _) | (refine below_drewN ?_ _) | (refine Below.drew ?_) | (refine Below.alloc ?_ (by first | exact Nat.le_refl _ | (simp; done) | omega | (simp; omega)) _) | (refine then_ ?_ (by with_reducible assumption)) | assumption | (refine then_ ?_ (by assumption))))
  have zV : w2.heap.size < V.heap.size := by rw [hVe]; simp
  have p0 : V.cell? ⟨w2.heap.size, 0, none⟩ = some (.int .i64 mir) := by rw [hVe]; simp [go_sem]
  have p1 : V.cell? ⟨w2.heap.size, 1, none⟩ = some (.complex .f32 0 0) := by rw [hVe]; simp [go_sem]
  have p2 : V.cell? ⟨w2.heap.size, 2, none⟩ = some (.float .f32 loss) := by rw [hVe]; simp [go_sem]
  have p3 : V.cell? ⟨w2.heap.size, 3, none⟩ = some (.slice none 0 0) := by rw [hVe]; simp [go_sem]
  have pf : ∀ j, V.frozen? ⟨w2.heap.size, j, none⟩ = false := by intro j; rw [hVe]; simp [go_sem]
  rw [← hVe]
  have hne1 : w2.heap.size ≠ g := by have := hc2.2.2.1; omega
  have zW2 : w.heap.size < w2.heap.size := by omega
  have q0 := keepC q0 hV
  have q1 := keepC q1 hV
  have q2 := keepC q2 hV
  have q3 := keepC q3 hV
  have f0 := frB f0 hV zW2
  have GV := grown_trans G1 (grown_of_below hV (some g))
  have hcV := hc2.step hV
  clear hVe hV G1 hc2
  refine (l1OnceC g A m c bs 2 _ (by omega) (by omega) hcV).mono ?_
  rintro e w3 ⟨b, rfl, hc3, hg3⟩
  have z3 := hg3.size
  have zV0 : w.heap.size < V.heap.size := by omega
  have q0 := ((gcell hg3).1 w.heap.size 0 zV0 hne).trans q0
  have q1 := ((gcell hg3).1 w.heap.size 1 zV0 hne).trans q1
  have q2 := ((gcell hg3).1 w.heap.size 2 zV0 hne).trans q2
  have q3 := ((gcell hg3).1 w.heap.size 3 zV0 hne).trans q3
  have f0 := fun j => ((gcell hg3).2 w.heap.size j zV0 hne).trans (f0 j)
  have p0 := ((gcell hg3).1 w2.heap.size 0 zV hne1).trans p0
  have p1 := ((gcell hg3).1 w2.heap.size 1 zV hne1).trans p1
  have p2 := ((gcell hg3).1 w2.heap.size 2 zV hne1).trans p2
  have p3 := ((gcell hg3).1 w2.heap.size 3 zV hne1).trans p3
  have pf := fun j => ((gcell hg3).2 w2.heap.size j zV hne1).trans (pf j)
  have G3 := grown_trans GV hg3
  clear hcV GV hg3
  cases b
  case' false =>
    obtain ⟨Z, gr, hgr, hcZ, zZ, GZ, r0, r1, r2, r3, rf, s0, s1, s2, s3, sf, hZ⟩ : ∃ (Z : World) (gr : Pt), pointB gr.1 gr.2 = true ∧ CurB Z g A m c bs ∧ w2.heap.size < Z.heap.size ∧ w.grownBy Z (some g) ∧ Z.cell? ⟨w2.heap.size, 0, none⟩ = some (.int .i64 mir) ∧ Z.cell? ⟨w2.heap.size, 1, none⟩ = some (.complex .f32 gr.1 gr.2) ∧ Z.cell? ⟨w2.heap.size, 2, none⟩ = some (.float .f32 loss) ∧ Z.cell? ⟨w2.heap.size, 3, none⟩ = some (.slice none 0 0) ∧ (∀ j, Z.frozen? ⟨w2.heap.size, j, none⟩ = false) ∧ Z.cell? ⟨w.heap.size, 0, none⟩ = some (.int .i64 0) ∧ Z.cell? ⟨w.heap.size, 1, none⟩ = some (.complex .f32 0 0) ∧ Z.cell? ⟨w.heap.size, 2, none⟩ = some (.float .f32 0) ∧ Z.cell? ⟨w.heap.size, 3, none⟩ = some (.slice none 0 0) ∧ (∀ j, Z.frozen? ⟨w.heap.size, j, none⟩ = false) ∧ Z = w3 :=
      ⟨w3, (0, 0), by decide +kernel, hc3, by omega, G3, p0, p1, p2, p3, pf, q0, q1, q2, q3, f0, rfl⟩
    rw [← hZ]
    have HGR := Lib.hid hgr
    clear hgr hZ q0 q1 q2 q3 f0 p0 p1 p2 p3 pf hc3 G3
    go_wp2_with fail
  case' true =>
    go_wp2_with fail
    refine (l1SomeN g A m c bs (-8) 8 _ (by omega) (by omega) (by omega) (by omega) hc3).mono ?_
    rintro e w4 ⟨x, x0, x1, rfl, hc4, hg4⟩
    obtain ⟨k1, k2, _⟩ := quoOk_spec (at_shift quo8_all rfl (by omega) (show (-40 : Int) ≤ x by omega) (show x ≤ 40 by omega))
    have Q2 := Lib.hid (okW_reach k2)
    obtain ⟨r, hr⟩ : ∃ r, r = quoW x 1090519040 := ⟨_, rfl⟩
    rw [← hr] at k1 Q2
    have hq := fun wx => run_float_arith (P := Try.prog) wx .quo 35 .f32 (fl x) 1090519040 r k1
    unfold fl at hq
    clear k1 k2 hr
    go_wp2_with fail
    refine (l1SomeN g A m c bs (-8) 8 _ (by omega) (by omega) (by omega) (by omega) hc4).mono ?_
    rintro e w5 ⟨y, y0, y1, rfl, hc5, hg5⟩
    obtain ⟨k1, k2, _⟩ := quoOk_spec (at_shift quo8_all rfl (by omega) (show (-40 : Int) ≤ y by omega) (show y ≤ 40 by omega))
    have Q3 := Lib.hid (okW_reach k2)
    obtain ⟨s, hs⟩ : ∃ r, r = quoW y 1090519040 := ⟨_, rfl⟩
    rw [← hs] at k1 Q3
    have hq2 := fun wx => run_float_arith (P := Try.prog) wx .quo 35 .f32 (fl y) 1090519040 s k1
    unfold fl at hq2
    have hg45 := grown_trans hg4 hg5
    have z45 := hg45.size
    have zV30 : w.heap.size < w3.heap.size := by omega
    have zV3 : w2.heap.size < w3.heap.size := by omega
    have q0 := ((gcell hg45).1 w.heap.size 0 zV30 hne).trans q0
    have q1 := ((gcell hg45).1 w.heap.size 1 zV30 hne).trans q1
    have q2 := ((gcell hg45).1 w.heap.size 2 zV30 hne).trans q2
    have q3 := ((gcell hg45).1 w.heap.size 3 zV30 hne).trans q3
    have f0 := fun j => ((gcell hg45).2 w.heap.size j zV30 hne).trans (f0 j)
    have p0 := ((gcell hg45).1 w2.heap.size 0 zV3 hne1).trans p0
    have p1 := ((gcell hg45).1 w2.heap.size 1 zV3 hne1).trans p1
    have p2 := ((gcell hg45).1 w2.heap.size 2 zV3 hne1).trans p2
    have p3 := ((gcell hg45).1 w2.heap.size 3 zV3 hne1).trans p3
    have pf := fun j => ((gcell hg45).2 w2.heap.size j zV3 hne1).trans (pf j)
    have G5 := grown_trans G3 hg45
    have pf1 := pf 1
    clear k1 k2 hs hc3 hc4 hg4 hg5 hg45 G3
    go_wp2_with fail
    obtain ⟨Z, gr, hgr, hcZ, zZ, GZ, r0, r1, r2, r3, rf, s0, s1, s2, s3, sf, hZ⟩ : ∃ (Z : World) (gr : Pt), pointB gr.1 gr.2 = true ∧ CurB Z g A m c bs ∧ w2.heap.size < Z.heap.size ∧ w.grownBy Z (some g) ∧ Z.cell? ⟨w2.heap.size, 0, none⟩ = some (.int .i64 mir) ∧ Z.cell? ⟨w2.heap.size, 1, none⟩ = some (.complex .f32 gr.1 gr.2) ∧ Z.cell? ⟨w2.heap.size, 2, none⟩ = some (.float .f32 loss) ∧ Z.cell? ⟨w2.heap.size, 3, none⟩ = some (.slice none 0 0) ∧ (∀ j, Z.frozen? ⟨w2.heap.size, j, none⟩ = false) ∧ Z.cell? ⟨w.heap.size, 0, none⟩ = some (.int .i64 0) ∧ Z.cell? ⟨w.heap.size, 1, none⟩ = some (.complex .f32 0 0) ∧ Z.cell? ⟨w.heap.size, 2, none⟩ = some (.float .f32 0) ∧ Z.cell? ⟨w.heap.size, 3, none⟩ = some (.slice none 0 0) ∧ (∀ j, Z.frozen? ⟨w.heap.size, j, none⟩ = false) ∧ Z = w5.setCell ⟨w2.heap.size, 1, none⟩ (.complex .f32 r s) :=
      ⟨_, (r, s), by unfold pointB; rw [Q2.out, Q3.out]; rfl, curB_set hc5 (by show g < w2.heap.size; omega) _, by simp; omega, grown_new G5 (by show w.heap.size ≤ w2.heap.size; omega) _, by simp [go_sem, p0], by simp [go_sem, p1], by simp [go_sem, p2], by simp [go_sem, p3], frS pf _ _, by simp [go_sem, q0], by simp [go_sem, q1], by simp [go_sem, q2], by simp [go_sem, q3], frS f0 _ _, rfl⟩
    rw [← hZ]
    have HGR := Lib.hid hgr
    clear hgr hZ q0 q1 q2 q3 f0 p0 p1 p2 p3 pf hc5 G5 hq hq2 Q2 Q3
  all_goals
    refine (l1BelowC g A m c bs 5 _ (by omega) (by omega) hcZ).mono ?_
    rintro e w6 ⟨N, hN, rfl, hc6, hg6⟩
    have z6 := hg6.size
    have zZ0 : w.heap.size < Z.heap.size := by omega
    have q0 := ((gcell hg6).1 w.heap.size 0 zZ0 hne).trans s0
    have q1 := ((gcell hg6).1 w.heap.size 1 zZ0 hne).trans s1
    have q2 := ((gcell hg6).1 w.heap.size 2 zZ0 hne).trans s2
    have q3 := ((gcell hg6).1 w.heap.size 3 zZ0 hne).trans s3
    have f0 := fun j => ((gcell hg6).2 w.heap.size j zZ0 hne).trans (sf j)
    have p0 := ((gcell hg6).1 w2.heap.size 0 zZ hne1).trans r0
    have p1 := ((gcell hg6).1 w2.heap.size 1 zZ hne1).trans r1
    have p2 := ((gcell hg6).1 w2.heap.size 2 zZ hne1).trans r2
    have p3 := ((gcell hg6).1 w2.heap.size 3 zZ hne1).trans r3
    have pf := fun j => ((gcell hg6).2 w2.heap.size j zZ hne1).trans (rf j)
    have G6 := grown_trans GZ hg6
    clear s0 s1 s2 s3 sf r0 r1 r2 r3 rf hcZ GZ hg6
    go_wp2_with fail
    have z62 : w2.heap.size < w6.heap.size := by omega
    have lW2 : w.heap.size ≤ w2.heap.size := by omega
    clear z3 z1 zW zW0 zV zV0 zZ zZ0
    go_loopw [4] (fun i wr => ∃ (j : Nat) (xs : List Bd) (O : Option Addr) (C : Nat), xs.length + j = N ∧ i = .int .i64 j ∧ xs.all (okBd mir) = true ∧ wr.cell? ⟨w2.heap.size, 0, none⟩ = some (.int .i64 mir) ∧ wr.cell? ⟨w2.heap.size, 1, none⟩ = some (.complex .f32 gr.1 gr.2) ∧ wr.cell? ⟨w2.heap.size, 2, none⟩ = some (.float .f32 loss) ∧ wr.cell? ⟨w2.heap.size, 3, none⟩ = some (.slice O xs.length C) ∧ (∀ j, wr.frozen? ⟨w2.heap.size, j, none⟩ = false) ∧ wr.cell? ⟨w.heap.size, 0, none⟩ = some (.int .i64 0) ∧ wr.cell? ⟨w.heap.size, 1, none⟩ = some (.complex .f32 0 0) ∧ wr.cell? ⟨w.heap.size, 2, none⟩ = some (.float .f32 0) ∧ wr.cell? ⟨w.heap.size, 3, none⟩ = some (.slice none 0 0) ∧ (∀ j, wr.frozen? ⟨w.heap.size, j, none⟩ = false) ∧ wr.ownsRow w6.heap.size 33 2 (.slice O xs.length C) xs.length (flat bdC xs) ∧ CurB wr g A m c bs ∧ w6.heap.size ≤ wr.heap.size ∧ w.grownBy wr (some g)) (fun i _ => (intOf i).toNat)
    case atStart => exact ⟨N, [], none, 0, Nat.zero_add _, rfl, rfl, p0, p1, p2, p3, pf, q0, q1, q2, q3, f0, ⟨rfl, .inl ⟨rfl, rfl⟩⟩, hc6, Nat.le_refl _, G6⟩
    case round =>
      clear q0 q1 q2 q3 f0 p0 p1 p2 p3 pf hc6 G6
      obtain ⟨j, xs, O, C, hxj, rfl, hxa, p0, p1, p2, p3, pf, q0, q1, q2, q3, f0, hown, hcr, hsz, hG⟩ := hrel
      have OW := Lib.hid hown
      have XA := Lib.hid hxa
      have XJ := Lib.hid hxj
      obtain ⟨k, hk⟩ : ∃ k, k = xs.length := ⟨_, rfl⟩
      have HK := Lib.hid hk
      rw [← hk] at p3 OW
      have k4 : k + j = N := by rw [hk]; exact hxj
      clear hown hxa hxj hk
      have z2r : w2.heap.size < wr.heap.size := by omega
      have z0r : w.heap.size < wr.heap.size := by omega
      by_cases hlt : 0 < j
      · have hji : (0 : Int) < (j : Int) := by omega
        have hgr : g < wr.heap.size := hcr.2.2.1
        have hneg : wr.heap.size ≠ g := by omega
        go_upto_region 7 with fail
        go_cut [5, 6, 7] from 28 to 49 (fun v5 _ _ wx => ∃ a : Pt, v5 = .complex .f32 a.1 a.2 ∧ wedgeB mir a = true ∧ wx.cell? ⟨w2.heap.size, 0, none⟩ = some (.int .i64 mir) ∧ wr.grownBy wx (some g) ∧ CurB wx g A m c bs)
        case first =>
          go_region_held3 (fun w' => w'.cell? ⟨w2.heap.size, 0, none⟩ = some (.int .i64 mir) ∧ wr.grownBy w' (some g) ∧ CurB w' g A m c bs) (first | assumption | exact ⟨p0, World.grownBy.refl _ _, hcr⟩ | exact ⟨p0, grown_drewN (World.grownBy.refl _ _) 1, hcr.drew⟩ | exact drawS1 (by assumption) z2r hne1 (by assumption) (by assumption) | exact drawS5 (by assumption) z2r _ | exact drawS2 (by assumption) z2r (by assumption) | exact drawS6 (drawS6 (by assumption) z2r hgr (by first | exact Nat.le_refl _ | exact gSz (by assumption)) _) z2r hgr (by first | exact Nat.le_refl _ | exact gSz (by assumption)) _) (first
          | (go_at_call 26; refine (l1PointC g A m c bs _ (And.right (And.right (by assumption)))).mono ?_; rintro e w7 ⟨pt, hpt, rfl, hc7, hg7⟩; try (refine keepGF_then (b := wr.heap.size) (o := 0) (v := .int .i64 0) hg7 hneg ?_ ?_ ?_; (focus (show (wr.alloc _).cell? _ = _; simp [go_sem]; done)); (focus (show (wr.alloc _).frozen? _ = _; simp [go_sem]; done)); intro k0 kf0 kl0; refine keepGF_then (b := wr.heap.size) (o := 1) (v := .bool false) hg7 hneg ?_ ?_ ?_; (focus (show (wr.alloc _).cell? _ = _; simp [go_sem]; done)); (focus (show (wr.alloc _).frozen? _ = _; simp [go_sem]; done)); intro k1 kf1 kl1))
          | (go_at_call 51; refine (specFoldPoint_any mir pt _).mono ?_; rintro e w8 ⟨rfl, hb8⟩; have S8 := drawS2 (by assumption) z2r hb8; (try (refine keepCF_then (p := ⟨wr.heap.size, 0, none⟩) (v := .int .i64 0) hb8 ?_ ?_ ?_; (focus first | assumption | (simp [go_sem]; done) | (simp [go_sem, *]; done)); (focus first | assumption | (simp [go_sem]; done) | (simp [go_sem, *]; done)); intro kc0_0 kf0_0 lb0_0; dsimp only at lb0_0; refine keepCF_then (p := ⟨wr.heap.size, 1, none⟩) (v := .bool false) hb8 ?_ ?_ ?_; (focus first | assumption | (simp [go_sem]; done) | (simp [go_sem, *]; done)); (focus first | assumption | (simp [go_sem]; done) | (simp [go_sem, *]; done)); intro kc0_1 kf0_1 lb0_1; dsimp only at lb0_1)); (try (refine keepCF_then (p := ⟨w7.heap.size, 0, none⟩) (v := .int .i64 0) hb8 ?_ ?_ ?_; (focus first | assumption | (simp [go_sem]; done) | (simp [go_sem, *]; done)); (focus first | assumption | (simp [go_sem]; done) | (simp [go_sem, *]; done)); intro kc1_0 kf1_0 lb1_0; dsimp only at lb1_0; refine keepCF_then (p := ⟨w7.heap.size, 1, none⟩) (v := .bool false) hb8 ?_ ?_ ?_; (focus first | assumption | (simp [go_sem]; done) | (simp [go_sem, *]; done)); (focus first | assumption | (simp [go_sem]; done) | (simp [go_sem, *]; done)); intro kc1_1 kf1_1 lb1_1; dsimp only at lb1_1)); have HWP := Lib.hid (foldS_wedge MIR.out pt); simp only [foldV]; generalize foldS mir pt = rr at HWP ⊢; obtain ⟨⟨a1, a2⟩, ⟨t, f⟩, ok⟩ := rr; dsimp only at HWP ⊢))
          all_goals
            go_wp2_with fail
            go_meet
            exact ⟨(a1, a2), rfl, HWP.out, by assumption⟩
        case rest =>
          obtain ⟨⟨a1, a2⟩, rfl, hwp, y0, hg7, hc7⟩ := hcut
          have HWP := Lib.hid hwp
          have z7 := hg7.size
          have y1 := ((gcell hg7).1 w2.heap.size 1 z2r hne1).trans p1
          have y2 := ((gcell hg7).1 w2.heap.size 2 z2r hne1).trans p2
          have y3 := ((gcell hg7).1 w2.heap.size 3 z2r hne1).trans p3
          have yf := fun j => ((gcell hg7).2 w2.heap.size j z2r hne1).trans (pf j)
          have x0 := ((gcell hg7).1 w.heap.size 0 z0r hne).trans q0
          have x1 := ((gcell hg7).1 w.heap.size 1 z0r hne).trans q1
          have x2 := ((gcell hg7).1 w.heap.size 2 z0r hne).trans q2
          have x3 := ((gcell hg7).1 w.heap.size 3 z0r hne).trans q3
          have xf := fun j => ((gcell hg7).2 w.heap.size j z0r hne).trans (f0 j)
          have OW7 := Lib.hid (owns_grown OW.out hg7 (fun k hk => (by injection hk with hk; rw [← hk]; exact off_lt OW.out (by omega))))
          have G7 := grown_trans hG hg7
          clear p0 p1 p2 p3 pf q0 q1 q2 q3 f0 hwp
          go_wp2_with fail
          have c2 : w2.heap.size < wc.heap.size := by omega
          have c0 : w.heap.size < wc.heap.size := by omega
          have hj64 : IntKind.i64.wrap ((j : Int) - 1) = (j : Int) - 1 := by rw [IntKind.wrap_i64]; omega
          have k8 : k < 8 := by omega
          go_region_law ((first
            | (go_simp; go_at_call 27; refine (l5SpeedC g A m c bs _ hc7.drew).mono ?_; rintro e w8 ⟨⟨b1, b2⟩, hpv, rfl, hc8, hg8'⟩; have HPV := Lib.hid (speed_point hpv); have hg8 := grown_undrew hg8'; clear hg8' hpv; dsimp only at HPV; have z8 := hg8.size; have v0 := ((gcell hg8).1 w2.heap.size 0 c2 hne1).trans y0; have v1 := ((gcell hg8).1 w2.heap.size 1 c2 hne1).trans y1; have v2 := ((gcell hg8).1 w2.heap.size 2 c2 hne1).trans y2; have v3 := ((gcell hg8).1 w2.heap.size 3 c2 hne1).trans y3; have vf := frG yf hg8 c2 (by intro e; injection e with e; omega); have vf3 := vf 3; have u0 := ((gcell hg8).1 w.heap.size 0 c0 hne).trans x0; have u1 := ((gcell hg8).1 w.heap.size 1 c0 hne).trans x1; have u2 := ((gcell hg8).1 w.heap.size 2 c0 hne).trans x2; have u3 := ((gcell hg8).1 w.heap.size 3 c0 hne).trans x3; have uf := frG xf hg8 c0 (by intro e; injection e with e; omega); have OW8 := Lib.hid (owns_grown OW7.out hg8 (fun k hk => (by injection hk with hk; rw [← hk]; exact off_lt OW7.out (by omega)))); have lz8 := (show w2.heap.size < w8.heap.size by omega); have lz0 := (show w.heap.size < w8.heap.size by omega); have G8 := grown_trans G7 hg8)
            | (refine step_append_lies _ (by rfl) _ _ _ (by rfl) w6.heap.size 33 i0 _ 2 16 Try.underlying34 hi hz0 hz1 hz2 rfl (by omega) _ _ _ (by rfl) (OW8.out.alloc _) ⟨w8.heap.size, 0, none⟩ 1 1 [.complex .f32 a1 a2, .complex .f32 b1 b2] (by rfl) (by rfl) (World.news_of_block (cs := #[.complex .f32 a1 a2, .complex .f32 b1 b2]) (t := 33) (fr := (0, 0)) (heap_alloc_new w8 _)) (by simp [Value.oneCell']) (by omega) (by unfold maxLen; omega) (by omega) (by simp; omega) (w8.heap.size + 1) (by simp) ?_; intro ga cap w9 hown9 hg9 hat9 hlt9; have hA := (show Below w8.heap.size w8 (w8.alloc (Obj.cells #[.complex .f32 a1 a2, .complex .f32 b1 b2] 33)) by (repeat (first | with_reducible assumption | exact Below.refl _ _ | (refine Below.setCell ?_ (by first | exact Nat.le_refl _ | (simp; done) | omega | (simp; omega)) _) | (refine below_drewN ?_ _) | (refine Below.drew ?_) | (refine Below.alloc ?_ (by first | exact Nat.le_refl _ | (simp; done) | omega | (simp; omega)) _) | (refine then_ ?_ (by with_reducible assumption)) | assumption | (refine then_ ?_ (by assumption))))); have OA := Lib.hid (OW8.out.alloc (Obj.cells #[.complex .f32 a1 a2, .complex .f32 b1 b2] 33)); have t0 := keepG_lt (keepC v0 hA) OA.out hg9 (by show w2.heap.size < _; omega); have t1 := keepG_lt (keepC v1 hA) OA.out hg9 (by show w2.heap.size < _; omega); have t2 := keepG_lt (keepC v2 hA) OA.out hg9 (by show w2.heap.size < _; omega); have t3 := keepG_lt (keepC v3 hA) OA.out hg9 (by show w2.heap.size < _; omega); have zA := (show w8.heap.size < (w8.alloc (Obj.cells #[.complex .f32 a1 a2, .complex .f32 b1 b2] 33)).heap.size by simp); have nb1 := off_lt OA.out (show w2.heap.size < w6.heap.size by omega); have nb0 := off_lt OA.out (show w.heap.size < w6.heap.size by omega); have tf := frG (frB vf hA (by omega)) hg9 (by omega) nb1; have tf3 := tf 3; have r0 := keepG_off (keepC u0 hA) hg9 nb0; have r1 := keepG_off (keepC u1 hA) hg9 nb0; have r2 := keepG_off (keepC u2 hA) hg9 nb0; have r3 := keepG_off (keepC u3 hA) hg9 nb0; have rf := frG (frB uf hA (by omega)) hg9 (by omega) nb0; have hc9 := CurB.off (hc8.step hA) hg9 (owns_gt OA.out (by omega)); have G9 := grown_mix (grown_trans G8 (grown_of_below hA (some g))) hg9 (owns_ge OA.out (by omega)); have OW9 := Lib.hid hown9; have hz9 := hg9.size; simp only [World.size_alloc] at hz9; clear hown9 hg9 hat9)))
          all_goals
            go_wp2
            go_roundw
            case rel =>
              have eL : (xs ++ [((a1, a2), (b1, b2))]).length = k + 1 := by simp only [List.length_append, List.length_singleton]; rw [← HK.out]
              have eJ : ((j - 1 : Nat) : Int) = (j : Int) - 1 := by omega
              have eA : (xs ++ [((a1, a2), (b1, b2))]).all (okBd mir) = true := by
                rw [List.all_append, XA.out]
                simp only [List.all_cons, List.all_nil, Bool.and_true, Bool.true_and]
                unfold okBd
                rw [HWP.out, HPV.out]
                rfl
              refine ⟨j - 1, xs ++ [((a1, a2), (b1, b2))], some ⟨ga, 0, none⟩, cap, by rw [eL]; omega, by rw [eJ], eA, ?_, ?_, ?_, ?_, frS tf _ _, ?_, ?_, ?_, ?_, frS rf _ _, ?_, curB_set hc9 (by show g < w2.heap.size; omega) _, by simp; omega, grown_new G9 (by show w.heap.size ≤ w2.heap.size; omega) _⟩
              · simp [go_sem, t0]
              · simp [go_sem, t1]
              · simp [go_sem, t2]
              · rw [eL]
                simp [go_sem, t3]
              · simp [go_sem, r0]
              · simp [go_sem, r1]
              · simp [go_sem, r2]
              · simp [go_sem, r3]
              · rw [eL, flat_append]
                exact ownsRow_setCell_below OW9.out (by show w2.heap.size < _; omega) _
            case measure => simp [intOf]; omega
      · obtain rfl : j = 0 := by omega
        have hp : tumB mir gr loss xs = true := by
          rw [tumB_parts]
          exact ⟨MIR.out, HGR.out, LOSS.out, by rw [← HK.out]; omega, XA.out⟩
        have HP := Lib.hid hp
        have f00 := f0 0
        have f01 := f0 1
        have f02 := f0 2
        have f03 := f0 3
        clear hp
        go_wp2
        refine bodyPost_ret (v := tumV mir gr loss (.slice O k C)) (by simp [results, Try.results37, go_sem, tumV, q0, q1, q2, q3]) rfl ⟨mir, gr, loss, xs, O, C, by rw [← HK.out]; omega, HP.out, by rw [← HK.out], ?_, curB_set (curB_set (curB_set (curB_set hcr hgw _) hgw _) hgw _) hgw _, grown_new (grown_new (grown_new (grown_new hG (Nat.le_refl _) _) (Nat.le_refl _) _) (Nat.le_refl _) _) (Nat.le_refl _) _⟩
        rw [← HK.out]
        have l6 : w.heap.size < w6.heap.size := by omega
        exact owns_mono (ownsRow_setCell_below (ownsRow_setCell_below (ownsRow_setCell_below (ownsRow_setCell_below OW.out l6 _) l6 _) l6 _) l6 _) (by omega)
end Go.Proofs.Ytdjbpbolliphkaa
