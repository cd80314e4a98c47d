
/- l3Draw: a piece of glass. -/
import Derived.Test.YtoafldgngbaddaaM6
import Derived.Test.YtoafldgngbaddaaM4
namespace Go.Proofs.Ytoafldgngbaddaa
open Go.RowKit
attribute [local go_sem] run_store_float run_store_complex

theorem quo4_all : ∀ k : Nat, k < 65 → quoOk ((k : Int) - 32) 1082130432 = true := by decide +kernel
theorem sum4_all : ∀ k : Nat, k < 65 → ∀ j : Nat, j < 49 → reachB (addB (quoW ((k : Int) - 32) 1082130432) (quoW ((j : Int) - 24) 1082130432)) = true := by decide +kernel
theorem sum4 {x y : Int} (h1 : -32 ≤ x) (h2 : x ≤ 32) (h3 : -24 ≤ y) (h4 : y ≤ 24) : reachB (addB (quoW x 1082130432) (quoW y 1082130432)) = true := by
  have := sum4_all (x + 32).toNat (by omega) (y + 24).toNat (by omega)
  have e1 : (((x + 32).toNat : Nat) : Int) - 32 = x := by omega
  have e2 : (((y + 24).toNat : Nat) : Int) - 24 = y := by omega
  rw [e1, e2] at this
  exact this

set_option maxRecDepth 100000 in
set_option maxHeartbeats 8000000 in
theorem l3DrawC (g : Nat) (A : Option Addr) (m c : Nat) (bs : List Int) (w : World) (hc : CurB w g A m c bs) :
    Calls Try.prog 64 #[.pointer (some ⟨g, 0, none⟩)] w fun e w' => ∃ (a b d : Pt) (r q l k : Nat), okSh (a, b, d, (r, q, l), k) = true ∧ e = .returned (.agg #[.complex .f32 a.1 a.2, .complex .f32 b.1 b.2, .complex .f32 d.1 d.2, .float .f32 r, .float .f32 q, .float .f32 l, .float .f32 k]) ∧ CurB w' g A m c bs ∧ w.grownBy w' (some g) := by
  have hgw := hc.2.2.1
  go_enter Try.func64, Try.ntmps64
  go_wp2_with fail
  obtain ⟨W, hWe⟩ : ∃ W, W = w.alloc (Obj.cells #[.complex .f32 0 0, .complex .f32 0 0, .complex .f32 0 0, .float .f32 0, .float .f32 0, .float .f32 0, .float .f32 0] 43) := ⟨_, rfl⟩
  have hW : Below w.heap.size w W := by rw [hWe]; (repeat (first | with_reducible assumption | exact Below.refl _ _ | (refine Below.setCell ?_ (by first | exact Nat.le_refl _ | (simp; done) | omega | (simp; omega)) _) | (refine below_drewN ?_ _) | (refine Below.drew ?_) | (refine Below.alloc ?_ (by first | exact Nat.le_refl _ | (simp; done) | omega | (simp; omega)) _) | (refine then_ ?_ (by with_reducible assumption)) | assumption | (refine then_ ?_ (by assumption))))
  have zW : w.heap.size < W.heap.size := by rw [hWe]; simp
  have d0 : W.cell? ⟨w.heap.size, 0, none⟩ = some (.complex .f32 0 0) := by rw [hWe]; simp [go_sem]
  have d1 : W.cell? ⟨w.heap.size, 1, none⟩ = some (.complex .f32 0 0) := by rw [hWe]; simp [go_sem]
  have d2 : W.cell? ⟨w.heap.size, 2, none⟩ = some (.complex .f32 0 0) := by rw [hWe]; simp [go_sem]
  have d3 : W.cell? ⟨w.heap.size, 3, none⟩ = some (.float .f32 0) := by rw [hWe]; simp [go_sem]
  have d4 : W.cell? ⟨w.heap.size, 4, none⟩ = some (.float .f32 0) := by rw [hWe]; simp [go_sem]
  have d5 : W.cell? ⟨w.heap.size, 5, none⟩ = some (.float .f32 0) := by rw [hWe]; simp [go_sem]
  have d6 : W.cell? ⟨w.heap.size, 6, none⟩ = some (.float .f32 0) := by rw [hWe]; simp [go_sem]
  have df : ∀ j, W.frozen? ⟨w.heap.size, j, none⟩ = false := by intro j; rw [hWe]; simp [go_sem]
  have hne : w.heap.size ≠ g := by omega
  have G0 := grown_of_below hW (some g)
  have GW := World.grownBy.refl W (some g)
  have hc0 := hc.step hW
  rw [← hWe]
  clear hWe hc
  (with_reducible refine (l1SomeN g A m c bs (-32) 32 _ (by omega) (by omega) (by omega) (by omega) hc0).mono ?_)
  rintro e w1 ⟨x1, x10, x11, rfl, hc1, hg⟩
  have GW := grown_trans GW hg
  obtain ⟨k1, k2, _⟩ := quoOk_spec (at_shift quo4_all rfl (by omega) (show (-32 : Int) ≤ x1 by omega) (show x1 ≤ 32 by omega))
  obtain ⟨x1r, hx1r⟩ : ∃ r, r = quoW x1 1082130432 := ⟨_, rfl⟩
  have Qx1 := Lib.hid (okW_reach k2)
  have Hx1 := Lib.hid hx1r
  rw [← hx1r] at k1 Qx1
  have qx1 := fun wx => run_float_arith (P := Try.prog) wx .quo 22 .f32 (fl x1) 1082130432 x1r k1
  unfold fl at qx1
  clear k1 k2 hx1r hc0 hg
  go_wp2_with fail
  (with_reducible refine (l1SomeN g A m c bs (-32) 32 _ (by omega) (by omega) (by omega) (by omega) hc1).mono ?_)
  rintro e w2 ⟨y1, y10, y11, rfl, hc2, hg⟩
  have GW := grown_trans GW hg
  obtain ⟨k1, k2, _⟩ := quoOk_spec (at_shift quo4_all rfl (by omega) (show (-32 : Int) ≤ y1 by omega) (show y1 ≤ 32 by omega))
  obtain ⟨y1r, hy1r⟩ : ∃ r, r = quoW y1 1082130432 := ⟨_, rfl⟩
  have Qy1 := Lib.hid (okW_reach k2)
  have Hy1 := Lib.hid hy1r
  rw [← hy1r] at k1 Qy1
  have qy1 := fun wx => run_float_arith (P := Try.prog) wx .quo 22 .f32 (fl y1) 1082130432 y1r k1
  unfold fl at qy1
  clear k1 k2 hy1r hc1 hg
  go_wp2_with fail
  (with_reducible refine (l1SomeN g A m c bs (-24) 24 _ (by omega) (by omega) (by omega) (by omega) hc2).mono ?_)
  rintro e w3 ⟨x2, x20, x21, rfl, hc3, hg⟩
  have GW := grown_trans GW hg
  obtain ⟨k1, k2, _⟩ := quoOk_spec (at_shift quo4_all rfl (by omega) (show (-32 : Int) ≤ x2 by omega) (show x2 ≤ 32 by omega))
  obtain ⟨x2r, hx2r⟩ : ∃ r, r = quoW x2 1082130432 := ⟨_, rfl⟩
  have Qx2 := Lib.hid (okW_reach k2)
  have Hx2 := Lib.hid hx2r
  rw [← hx2r] at k1 Qx2
  have qx2 := fun wx => run_float_arith (P := Try.prog) wx .quo 22 .f32 (fl x2) 1082130432 x2r k1
  unfold fl at qx2
  clear k1 k2 hx2r hc2 hg
  go_wp2_with fail
  (with_reducible refine (l1SomeN g A m c bs (-24) 24 _ (by omega) (by omega) (by omega) (by omega) hc3).mono ?_)
  rintro e w4 ⟨y2, y20, y21, rfl, hc4, hg⟩
  have GW := grown_trans GW hg
  obtain ⟨k1, k2, _⟩ := quoOk_spec (at_shift quo4_all rfl (by omega) (show (-32 : Int) ≤ y2 by omega) (show y2 ≤ 32 by omega))
  obtain ⟨y2r, hy2r⟩ : ∃ r, r = quoW y2 1082130432 := ⟨_, rfl⟩
  have Qy2 := Lib.hid (okW_reach k2)
  have Hy2 := Lib.hid hy2r
  rw [← hy2r] at k1 Qy2
  have qy2 := fun wx => run_float_arith (P := Try.prog) wx .quo 22 .f32 (fl y2) 1082130432 y2r k1
  unfold fl at qy2
  clear k1 k2 hy2r hc3 hg
  go_wp2_with fail
  obtain ⟨B, hB⟩ : ∃ P, P = plusP (x1r, y1r) (x2r, y2r) := ⟨_, rfl⟩
  have kB := fun w => specPlus_any (x1r, y1r) (x2r, y2r) w
  rw [← hB] at kB
  have QB := Lib.hid (show pointB B.1 B.2 = true by rw [hB]; unfold pointB plusP; dsimp only; rw [Hx1.out, Hy1.out, Hx2.out, Hy2.out, sum4 x10 x11 x20 x21, sum4 y10 y11 y20 y21]; rfl)
  (with_reducible refine (kB _).mono ?_)
  clear hB kB
  rintro e w' ⟨rfl, n1, rfl⟩
  have hc5 := CurB.step hc4 (below_drewN (Below.refl _ _) n1)
  have GW := grown_drewN GW n1
  clear hc4
  go_wp2_with fail
  (with_reducible refine (l1SomeN g A m c bs (-24) 24 _ (by omega) (by omega) (by omega) (by omega) hc5).mono ?_)
  rintro e w6 ⟨x3, x30, x31, rfl, hc6, hg⟩
  have GW := grown_trans GW hg
  obtain ⟨k1, k2, _⟩ := quoOk_spec (at_shift quo4_all rfl (by omega) (show (-32 : Int) ≤ x3 by omega) (show x3 ≤ 32 by omega))
  obtain ⟨x3r, hx3r⟩ : ∃ r, r = quoW x3 1082130432 := ⟨_, rfl⟩
  have Qx3 := Lib.hid (okW_reach k2)
  have Hx3 := Lib.hid hx3r
  rw [← hx3r] at k1 Qx3
  have qx3 := fun wx => run_float_arith (P := Try.prog) wx .quo 22 .f32 (fl x3) 1082130432 x3r k1
  unfold fl at qx3
  clear k1 k2 hx3r hc5 hg
  go_wp2_with fail
  (with_reducible refine (l1SomeN g A m c bs (-24) 24 _ (by omega) (by omega) (by omega) (by omega) hc6).mono ?_)
  rintro e w7 ⟨y3, y30, y31, rfl, hc7, hg⟩
  have GW := grown_trans GW hg
  obtain ⟨k1, k2, _⟩ := quoOk_spec (at_shift quo4_all rfl (by omega) (show (-32 : Int) ≤ y3 by omega) (show y3 ≤ 32 by omega))
  obtain ⟨y3r, hy3r⟩ : ∃ r, r = quoW y3 1082130432 := ⟨_, rfl⟩
  have Qy3 := Lib.hid (okW_reach k2)
  have Hy3 := Lib.hid hy3r
  rw [← hy3r] at k1 Qy3
  have qy3 := fun wx => run_float_arith (P := Try.prog) wx .quo 22 .f32 (fl y3) 1082130432 y3r k1
  unfold fl at qy3
  clear k1 k2 hy3r hc6 hg
  go_wp2_with fail
  obtain ⟨D, hD⟩ : ∃ P, P = plusP (x1r, y1r) (x3r, y3r) := ⟨_, rfl⟩
  have kD := fun w => specPlus_any (x1r, y1r) (x3r, y3r) w
  rw [← hD] at kD
  have QD := Lib.hid (show pointB D.1 D.2 = true by rw [hD]; unfold pointB plusP; dsimp only; rw [Hx1.out, Hy1.out, Hx3.out, Hy3.out, sum4 x10 x11 x30 x31, sum4 y10 y11 y30 y31]; rfl)
  (with_reducible refine (kD _).mono ?_)
  clear hD kD
  rintro e w' ⟨rfl, n2, rfl⟩
  have hc8 := CurB.step hc7 (below_drewN (Below.refl _ _) n2)
  have GW := grown_drewN GW n2
  clear hc7
  go_wp2_with fail
  (with_reducible refine (l2DrawC g A m c bs _ hc8).mono ?_)
  rintro e wa ⟨cr, cg, cl, hcol, rfl, hca, hg⟩
  have GW := grown_trans GW hg
  have HCOL := Lib.hid hcol
  clear hc8 hg hcol
  go_wp2_with fail
  (with_reducible refine (l2OneC g A m c bs _ hca).mono ?_)
  rintro e wb ⟨ck, hck, rfl, hcb, hg⟩
  have GW := grown_trans GW hg
  have HCK := Lib.hid hck
  clear hca hg hck
  go_wp2_with fail
  obtain ⟨V, hVe⟩ : ∃ V, V = wb.alloc (Obj.cells #[.complex .f32 x1r y1r, .complex .f32 B.1 B.2, .complex .f32 D.1 D.2, .float .f32 cr, .float .f32 cg, .float .f32 cl, .float .f32 ck] 43) := ⟨_, rfl⟩
  have hV : Below wb.heap.size wb V := by rw [hVe]; (repeat (first | with_reducible assumption | exact Below.refl _ _ | (refine Below.setCell ?_ (by first | exact Nat.le_refl _ | (simp; done) | omega | (simp; omega)) _) | (refine below_drewN ?_ _) | (refine Below.drew ?_) | (refine Below.alloc ?_ (by first | exact Nat.le_refl _ | (simp; done) | omega | (simp; omega)) _) | (refine then_ ?_ (by with_reducible assumption)) | assumption | (refine then_ ?_ (by assumption))))
  have zb : W.heap.size ≤ wb.heap.size := GW.size
  have zV : wb.heap.size < V.heap.size := by rw [hVe]; simp
  have hneb : wb.heap.size ≠ g := by omega
  have s0 : V.cell? ⟨wb.heap.size, 0, none⟩ = some (.complex .f32 x1r y1r) := by rw [hVe]; simp [go_sem]
  have s1 : V.cell? ⟨wb.heap.size, 1, none⟩ = some (.complex .f32 B.1 B.2) := by rw [hVe]; simp [go_sem]
  have s2 : V.cell? ⟨wb.heap.size, 2, none⟩ = some (.complex .f32 D.1 D.2) := by rw [hVe]; simp [go_sem]
  have s3 : V.cell? ⟨wb.heap.size, 3, none⟩ = some (.float .f32 cr) := by rw [hVe]; simp [go_sem]
  have s4 : V.cell? ⟨wb.heap.size, 4, none⟩ = some (.float .f32 cg) := by rw [hVe]; simp [go_sem]
  have s5 : V.cell? ⟨wb.heap.size, 5, none⟩ = some (.float .f32 cl) := by rw [hVe]; simp [go_sem]
  have s6 : V.cell? ⟨wb.heap.size, 6, none⟩ = some (.float .f32 ck) := by rw [hVe]; simp [go_sem]
  have sf : ∀ j, V.frozen? ⟨wb.heap.size, j, none⟩ = false := by intro j; rw [hVe]; simp [go_sem]
  have GW := grown_trans GW (grown_of_below hV (some g))
  have hcV := hcb.step hV
  rw [← hVe]
  clear hVe hV hcb
  (with_reducible refine (l1OnceC g A m c bs 5 _ (by omega) (by omega) hcV).mono ?_)
  rintro e wc ⟨once, rfl, hcc, hg⟩
  have s0 := ((gcell hg).1 wb.heap.size 0 zV hneb).trans s0
  have s1 := ((gcell hg).1 wb.heap.size 1 zV hneb).trans s1
  have s2 := ((gcell hg).1 wb.heap.size 2 zV hneb).trans s2
  have s3 := ((gcell hg).1 wb.heap.size 3 zV hneb).trans s3
  have s4 := ((gcell hg).1 wb.heap.size 4 zV hneb).trans s4
  have s5 := ((gcell hg).1 wb.heap.size 5 zV hneb).trans s5
  have s6 := ((gcell hg).1 wb.heap.size 6 zV hneb).trans s6
  have sf := fun j => ((gcell hg).2 wb.heap.size j zV hneb).trans (sf j)
  have zc : wb.heap.size < wc.heap.size := by have := hg.size; omega
  have GW := grown_trans GW hg
  clear hg hcV
  have QA := Lib.hid (show pointB x1r y1r = true by unfold pointB; rw [Qx1.out, Qy1.out]; rfl)
  cases once
  · have d0 := ((gcell GW).1 w.heap.size 0 zW hne).trans d0
    have d1 := ((gcell GW).1 w.heap.size 1 zW hne).trans d1
    have d2 := ((gcell GW).1 w.heap.size 2 zW hne).trans d2
    have d3 := ((gcell GW).1 w.heap.size 3 zW hne).trans d3
    have d4 := ((gcell GW).1 w.heap.size 4 zW hne).trans d4
    have d5 := ((gcell GW).1 w.heap.size 5 zW hne).trans d5
    have d6 := ((gcell GW).1 w.heap.size 6 zW hne).trans d6
    have df := fun j => ((gcell GW).2 w.heap.size j zW hne).trans (df j)
    have f0 := df 0
    have f1 := df 1
    have f2 := df 2
    have f3 := df 3
    have f4 := df 4
    have f5 := df 5
    have f6 := df 6
    have lw : w.heap.size < wc.heap.size := World.block_lt_of_cell? _ _ d0
    have n1 : ¬ w.heap.size = wb.heap.size := by omega
    have n2 : ¬ wb.heap.size = w.heap.size := by omega
    go_wp2
    refine bodyPost_ret (v := .agg #[.complex .f32 x1r y1r, .complex .f32 B.1 B.2, .complex .f32 D.1 D.2, .float .f32 cr, .float .f32 cg, .float .f32 cl, .float .f32 ck]) (by simp [results, Try.results64, go_sem, d0, d1, d2, d3, d4, d5, d6]) rfl ⟨(x1r, y1r), B, D, cr, cg, cl, ck, ?_, rfl, curB_set (curB_set (curB_set (curB_set (curB_set (curB_set (curB_set (hcc) hgw _) hgw _) hgw _) hgw _) hgw _) hgw _) hgw _, grown_new (grown_new (grown_new (grown_new (grown_new (grown_new (grown_new (grown_trans G0 GW) (Nat.le_refl _) _) (Nat.le_refl _) _) (Nat.le_refl _) _) (Nat.le_refl _) _) (Nat.le_refl _) _) (Nat.le_refl _) _) (Nat.le_refl _) _⟩
    unfold okSh
    dsimp only
    rw [QA.out, QB.out, QD.out, HCOL.out, HCK.out]; rfl
  · go_wp2_with fail
    (with_reducible refine (l1PointC g A m c bs _ hcc).mono ?_)
    rintro e wd ⟨pt, hpt, rfl, hcd, hg⟩
    have HPT := Lib.hid (speed_point hpt)
    have s0 := ((gcell hg).1 wb.heap.size 0 zc hneb).trans s0
    have s1 := ((gcell hg).1 wb.heap.size 1 zc hneb).trans s1
    have s2 := ((gcell hg).1 wb.heap.size 2 zc hneb).trans s2
    have s3 := ((gcell hg).1 wb.heap.size 3 zc hneb).trans s3
    have s4 := ((gcell hg).1 wb.heap.size 4 zc hneb).trans s4
    have s5 := ((gcell hg).1 wb.heap.size 5 zc hneb).trans s5
    have s6 := ((gcell hg).1 wb.heap.size 6 zc hneb).trans s6
    have sf2 := ((gcell hg).2 wb.heap.size 2 zc hneb).trans (sf 2)
    have zd : wb.heap.size < wd.heap.size := by have := hg.size; omega
    have GW := grown_trans GW hg
    clear hg hcc hpt
    have d0 := ((gcell GW).1 w.heap.size 0 zW hne).trans d0
    have d1 := ((gcell GW).1 w.heap.size 1 zW hne).trans d1
    have d2 := ((gcell GW).1 w.heap.size 2 zW hne).trans d2
    have d3 := ((gcell GW).1 w.heap.size 3 zW hne).trans d3
    have d4 := ((gcell GW).1 w.heap.size 4 zW hne).trans d4
    have d5 := ((gcell GW).1 w.heap.size 5 zW hne).trans d5
    have d6 := ((gcell GW).1 w.heap.size 6 zW hne).trans d6
    have df := fun j => ((gcell GW).2 w.heap.size j zW hne).trans (df j)
    have f0 := df 0
    have f1 := df 1
    have f2 := df 2
    have f3 := df 3
    have f4 := df 4
    have f5 := df 5
    have f6 := df 6
    have lw : w.heap.size < wd.heap.size := World.block_lt_of_cell? _ _ d0
    have n1 : ¬ w.heap.size = wb.heap.size := by omega
    have n2 : ¬ wb.heap.size = w.heap.size := by omega
    have lb : w.heap.size ≤ wb.heap.size := by omega
    go_wp2
    refine bodyPost_ret (v := .agg #[.complex .f32 x1r y1r, .complex .f32 B.1 B.2, .complex .f32 pt.1 pt.2, .float .f32 cr, .float .f32 cg, .float .f32 cl, .float .f32 ck]) (by simp [results, Try.results64, go_sem, d0, d1, d2, d3, d4, d5, d6]) rfl ⟨(x1r, y1r), B, pt, cr, cg, cl, ck, ?_, rfl, curB_set (curB_set (curB_set (curB_set (curB_set (curB_set (curB_set (curB_set hcd (by show g < wb.heap.size; omega) _) hgw _) hgw _) hgw _) hgw _) hgw _) hgw _) hgw _, grown_new (grown_new (grown_new (grown_new (grown_new (grown_new (grown_new (grown_new (grown_trans G0 GW) lb _) (Nat.le_refl _) _) (Nat.le_refl _) _) (Nat.le_refl _) _) (Nat.le_refl _) _) (Nat.le_refl _) _) (Nat.le_refl _) _) (Nat.le_refl _) _⟩
    unfold okSh
    dsimp only
    rw [QA.out, QB.out, HPT.out, HCOL.out, HCK.out]; rfl
end Go.Proofs.Ytoafldgngbaddaa
