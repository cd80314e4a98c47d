
/- l5Bead: the specification's tick of one bead is the program's. -/
import Derived.Test.YtdjbpbolliphkaaSpT
import Derived.Test.YtdjbpbolliphkaaTick
import Derived.Deep.CutRange
namespace Go.Proofs.Ytdjbpbolliphkaa
open Go.RowKit
attribute [local go_sem] run_store_float run_store_complex

def BeadPost (mir : Int) (gr : Pt) (loss : Nat) (b : Bd) (e : Ending) : Prop :=
  (goOk gr b = true → e = .returned (.tuple #[.agg #[.complex .f32 (goBd mir gr loss b).1.1.1 (goBd mir gr loss b).1.1.2, .complex .f32 (goBd mir gr loss b).1.2.1 (goBd mir gr loss b).1.2.2], .bool true])) ∧
  (goOk gr b = false → e = .returned (.tuple #[.agg #[.complex .f32 b.1.1 b.1.2, .complex .f32 b.2.1 b.2.2], .bool false]))

set_option maxRecDepth 100000 in
set_option maxHeartbeats 8000000 in
theorem specBead_any (mir : Int) (gr : Pt) (loss : Nat) (s : Value) (a v : Pt) (w : World) (hm : inB mir 0 3 = true) (hg : finP gr) (ha : finP a) (hv : finP v) :
    Calls Try.prog 67 #[.agg #[.int .i64 mir, .complex .f32 gr.1 gr.2, .float .f32 loss, s], .agg #[.complex .f32 a.1 a.2, .complex .f32 v.1 v.2]] w fun e w' => BeadPost mir gr loss (a, v) e ∧ Below w.heap.size w w' := by
  obtain ⟨P1, hP1⟩ : ∃ P, P = plusP v gr := ⟨_, rfl⟩
  obtain ⟨P2, hP2⟩ : ∃ P, P = plusP a P1 := ⟨_, rfl⟩
  have cw1 : cwP P1 := by rw [hP1]; exact plus_cw hv hg
  have cw2 : cwP P2 := by rw [hP2]; exact plus_cw ha (cwP_fin cw1)
  have k1 := fun w => specPlus_any v gr w
  have k2 := fun w => specPlus_any a P1 w
  rw [← hP1] at k1
  rw [← hP2] at k2
  have K1 := Lib.hid k1
  have K2 := Lib.hid k2
  obtain ⟨e1, e2, e3⟩ := fold_eq hm cw2
  obtain ⟨r, hr⟩ : ∃ r, r = foldP mir P2 := ⟨_, rfl⟩
  have kf := fun w => specFoldPoint_any mir P2 w
  rw [e1, ← hr] at kf
  rw [← hr] at e2 e3
  have GO : goOk gr (a, v) = (pointB P1.1 P1.2 && pointB P2.1 P2.2) := by unfold goOk; rw [← hP1, ← hP2]
  have GB : goBd mir gr loss (a, v) = if r.2.1 == (0, false) then ((r.1, actP r.2.1.1 r.2.1.2 P1.1 P1.2), false) else ((r.1, slow loss (actP r.2.1.1 r.2.1.2 P1.1 P1.2)), true) := by unfold goBd; simp only; rw [← hP1, ← hP2, ← hr]
  obtain ⟨q, ⟨t, f⟩, ob⟩ := r
  dsimp only at e2 e3 GB
  rw [← e2] at GO
  simp only [foldV] at kf
  have KF := Lib.hid kf
  have GOH := Lib.hid GO
  have GBH := Lib.hid GB
  have C1 := Lib.hid cw1
  clear k1 k2 kf e1 e2 hr GO GB hP1 hP2 cw1 cw2
  go_enter Try.func67, Try.ntmps67
  go_wp2_with fail
  (with_reducible refine (K1.out _).mono ?_)
  rintro e w' ⟨rfl, n1, rfl⟩
  go_wp2_with fail
  obtain ⟨W, hWe⟩ : ∃ W, W = (((w.alloc (Obj.cells #[.int .i64 mir, .complex .f32 gr.1 gr.2, .float .f32 loss, s] 37)).alloc (Obj.cells #[.complex .f32 a.1 a.2, .complex .f32 v.1 v.2] 33)).alloc (Obj.cells #[.complex .f32 0 0, .complex .f32 0 0] 33)).drewN n1 := ⟨_, rfl⟩
  have hW : Below w.heap.size w W := by rw [hWe]; exact below_drewN (by (repeat (first | with_reducible assumption | exact Below.refl _ _ | (refine Below.setCell ?_ (by first | exact Nat.le_refl _ | (simp; done) | omega | (simp; omega)) _) | (refine below_drewN ?_ _) | (refine Below.drew ?_) | (refine Below.alloc ?_ (by first | exact Nat.le_refl _ | (simp; done) | omega | (simp; omega)) _) | (refine then_ ?_ (by with_reducible assumption)) | assumption | (refine then_ ?_ (by assumption))))) _
  have zW : W.heap.size = w.heap.size + 3 := by rw [hWe]; show (((w.alloc _).alloc _).alloc _).heap.size = _; simp
  have c0 : W.cell? ⟨w.heap.size, 0, none⟩ = some (.int .i64 mir) := by rw [hWe]; show (((w.alloc _).alloc _).alloc _).cell? _ = _; simp [go_sem]
  have c2 : W.cell? ⟨w.heap.size, 2, none⟩ = some (.float .f32 loss) := by rw [hWe]; show (((w.alloc _).alloc _).alloc _).cell? _ = _; simp [go_sem]
  have b0 : W.cell? ⟨w.heap.size + 1, 0, none⟩ = some (.complex .f32 a.1 a.2) := by rw [hWe]; show (((w.alloc _).alloc _).alloc _).cell? _ = _; simp [go_sem]
  have b1 : W.cell? ⟨w.heap.size + 1, 1, none⟩ = some (.complex .f32 v.1 v.2) := by rw [hWe]; show (((w.alloc _).alloc _).alloc _).cell? _ = _; simp [go_sem]
  have d0 : W.cell? ⟨w.heap.size + 1 + 1, 0, none⟩ = some (.complex .f32 0 0) := by rw [hWe]; show (((w.alloc _).alloc _).alloc _).cell? _ = _; simp [go_sem]
  have d1 : W.cell? ⟨w.heap.size + 1 + 1, 1, none⟩ = some (.complex .f32 0 0) := by rw [hWe]; show (((w.alloc _).alloc _).alloc _).cell? _ = _; simp [go_sem]
  have df : ∀ j, W.frozen? ⟨w.heap.size + 1 + 1, j, none⟩ = false := by intro j; rw [hWe]; show (((w.alloc _).alloc _).alloc _).frozen? _ = _; simp [go_sem]
  have ZW := Lib.hid zW
  have lb0 : w.heap.size < W.heap.size := by omega
  have lb1 : w.heap.size + 1 < W.heap.size := by omega
  have lb2 : w.heap.size + 1 + 1 < W.heap.size := by omega
  have l2 : w.heap.size ≤ w.heap.size + 1 + 1 := by omega
  rw [← hWe]
  clear hWe zW
  go_cut [7, 8, 9] (fun v7 v8 v9 wx => ∃ g8 : Nat, v7 = .complex .f32 q.1 q.2 ∧ v8 = .pointer (some ⟨g8, 0, none⟩) ∧ v9 = .bool ob ∧ W.heap.size ≤ g8 ∧ wx.cell? ⟨g8, 0, none⟩ = some (.int .i64 t) ∧ wx.cell? ⟨g8, 1, none⟩ = some (.bool f) ∧ Below W.heap.size W wx)
  case first =>
    go_region_held3 (fun w' => (∀ b o, b < W.heap.size → w'.cell? ⟨b, o, none⟩ = W.cell? ⟨b, o, none⟩) ∧ Below W.heap.size W w') (first | assumption | exact startS _ | exact startSM _ _ | exact stepS (by assumption) (by assumption) | exact ofBel (by (repeat (first | with_reducible assumption | exact Below.refl _ _ | (refine Below.setCell ?_ (by first | exact Nat.le_refl _ | (simp; done) | omega | (simp; omega)) _) | (refine below_drewN ?_ _) | (refine Below.drew ?_) | (refine Below.alloc ?_ (by first | exact Nat.le_refl _ | (simp; done) | omega | (simp; omega)) _) | (refine then_ ?_ (by with_reducible assumption)) | assumption | (refine then_ ?_ (by assumption)))))) (first | (go_at_call 52; (with_reducible refine (K2.out _).mono ?_); rintro e w4 ⟨rfl, n2, rfl⟩) | (go_at_call 51; (with_reducible refine (KF.out _).mono ?_); rintro e w5 ⟨rfl, hb5⟩; have hB5 : Below W.heap.size W w5 := (by (repeat (first | with_reducible assumption | exact Below.refl _ _ | (refine Below.setCell ?_ (by first | exact Nat.le_refl _ | (simp; done) | omega | (simp; omega)) _) | (refine below_drewN ?_ _) | (refine Below.drew ?_) | (refine Below.alloc ?_ (by first | exact Nat.le_refl _ | (simp; done) | omega | (simp; omega)) _) | (refine then_ ?_ (by with_reducible assumption)) | assumption | (refine then_ ?_ (by assumption))))); have z5 := hB5.size; try (refine keepCF_then (p := ⟨W.heap.size, 0, none⟩) (v := .int .i64 0) hb5 ?_ ?_ ?_; (focus (show (W.alloc _).cell? _ = _; simp [go_sem]; done)); (focus (show (W.alloc _).frozen? _ = _; simp [go_sem]; done)); intro kc0 kf0 lk0; dsimp only at lk0; refine keepCF_then (p := ⟨W.heap.size, 1, none⟩) (v := .bool false) hb5 ?_ ?_ ?_; (focus (show (W.alloc _).cell? _ = _; simp [go_sem]; done)); (focus (show (W.alloc _).frozen? _ = _; simp [go_sem]; done)); intro kc1 kf1 lk1)))
    all_goals
      go_wp2_with fail
      go_meet
      first
        | exact ⟨w5.heap.size, rfl, rfl, rfl, z5, by simp [go_sem], by simp [go_sem], hB5.alloc z5 _⟩
        | exact ⟨W.heap.size, rfl, rfl, rfl, Nat.le_refl _, by simp [go_sem, kc0], by simp [go_sem, kc1], (hB5.setCell (Nat.le_refl _) _).setCell (Nat.le_refl _) _⟩
  case rest =>
    obtain ⟨g8, rfl, rfl, rfl, hg8, t0, t1, hwc⟩ := hcut
    have hWc := then_ hW hwc
    have f0 := keepF d0 (df 0) hwc
    have f1 := keepF d1 (df 1) hwc
    have d0 := keepC d0 hwc
    have d1 := keepC d1 hwc
    have b0 := keepC b0 hwc
    have b1 := keepC b1 hwc
    have c2 := keepC c2 hwc
    have zc := hwc.size
    have lc0 : w.heap.size < wc.heap.size := by omega
    have lc1 : w.heap.size + 1 < wc.heap.size := by omega
    have lc2 : w.heap.size + 1 + 1 < wc.heap.size := by omega
    have lg8 := World.block_lt_of_cell? _ _ t0
    dsimp only at lg8
    have n8 : ¬ g8 = w.heap.size + 1 + 1 := by omega
    have n8' : ¬ w.heap.size + 1 + 1 = g8 := by omega
    have kp := fun w => specIsPoint_any P1.1 P1.2 w
    clear df hwc c0
    cases h1 : pointB P1.1 P1.2
    · have R := Lib.hid (show goOk gr (a, v) = false by rw [GOH.out, h1]; rfl)
      rw [h1] at kp
      have KP := Lib.hid kp
      clear kp
      go_wp2_with fail
      (with_reducible refine (KP.out _).mono ?_)
      rintro e w' ⟨rfl, n3, rfl⟩
      go_wp2
      refine bodyPost_ret (v := .tuple #[.agg #[.complex .f32 a.1 a.2, .complex .f32 v.1 v.2], .bool false]) (by simp [results, Try.results67, go_sem, d0, d1]) rfl ⟨⟨fun h => (by rw [R.out] at h; cases h), fun _ => rfl⟩, ?_⟩
      exact ((below_drewN hWc _).setCell l2 _).setCell l2 _
    · rw [h1] at kp
      have KP := Lib.hid kp
      clear kp
      cases ob
      · have R := Lib.hid (show goOk gr (a, v) = false by rw [GOH.out, Bool.and_false])
        go_wp2_with fail
        (with_reducible refine (KP.out _).mono ?_)
        rintro e w' ⟨rfl, n3, rfl⟩
        go_wp2
        refine bodyPost_ret (v := .tuple #[.agg #[.complex .f32 a.1 a.2, .complex .f32 v.1 v.2], .bool false]) (by simp [results, Try.results67, go_sem, d0, d1]) rfl ⟨⟨fun h => (by rw [R.out] at h; cases h), fun _ => rfl⟩, ?_⟩
        exact ((below_drewN hWc _).setCell l2 _).setCell l2 _
      · have R := Lib.hid (show goOk gr (a, v) = true by rw [GOH.out, h1]; rfl)
        obtain ⟨S, hS⟩ : ∃ S, S = actP t f P1.1 P1.2 := ⟨_, rfl⟩
        have ka := fun w => l1Act_any t f P1.1 P1.2 w e3
        rw [actS_actI (show cwP (P1.1, P1.2) from C1.out), ← actP_yes e3 h1, ← hS] at ka
        simp only [cxV] at ka
        have KA := Lib.hid ka
        have kn := fun wx => run_neq_symT t 0 f false wx
        obtain ⟨z, hz⟩ : ∃ z, z = ((t, f) == ((0 : Int), false)) := ⟨_, rfl⟩
        have GB2 := GBH.out
        rw [← hz, ← hS] at GB2
        rw [← hz] at kn
        have GB3 := Lib.hid GB2
        clear ka hS hz GB2 b0 b1
        go_wp2_with fail
        (with_reducible refine (KP.out _).mono ?_)
        rintro e w' ⟨rfl, n3, rfl⟩
        go_wp2_with fail
        (with_reducible refine (KA.out _).mono ?_)
        rintro e w5 ⟨rfl, hb5⟩
        obtain ⟨X, hX⟩ : ∃ X, X = wc.drewN n3 := ⟨_, rfl⟩
        have hX1 : Below wc.heap.size wc X := by rw [hX]; exact below_drewN (Below.refl _ _) _
        rw [← hX] at hb5
        have hb := then_ hX1 hb5
        have hW5 := then_ hWc hb
        have f0 := keepF d0 f0 hb
        have f1 := keepF d1 f1 hb
        have d0 := keepC d0 hb
        have d1 := keepC d1 hb
        have c2 := keepC c2 hb
        have t0 := keepC t0 hb
        have t1 := keepC t1 hb
        have z5 := hb.size
        have lc0 : w.heap.size < w5.heap.size := by omega
        have lc2 : w.heap.size + 1 + 1 < w5.heap.size := by omega
        have lg8 : g8 < w5.heap.size := by omega
        clear hX hX1 hb5 hb
        cases z
        · go_wp2_with (first
            | (go_at_call 73; (with_reducible refine (l1Minus_any _ _ _).mono ?_); rintro e w' ⟨rfl, n4, rfl⟩)
            | (go_at_call 74; (with_reducible refine (l1Times_any _ _ _).mono ?_); rintro e w' ⟨rfl, n5, rfl⟩))
          refine bodyPost_ret (v := .tuple #[.agg #[.complex .f32 q.1 q.2, .complex .f32 (slow loss S).1 (slow loss S).2], .bool true]) (by simp [results, Try.results67, go_sem, d0, d1, slow]) rfl ⟨⟨fun _ => by rw [GB3.out]; rfl, fun h => by rw [R.out] at h; cases h⟩, ?_⟩
          exact ((below_drewN hW5 _).setCell l2 _).setCell l2 _
        · go_wp2
          refine bodyPost_ret (v := .tuple #[.agg #[.complex .f32 q.1 q.2, .complex .f32 S.1 S.2], .bool true]) (by simp [results, Try.results67, go_sem, d0, d1]) rfl ⟨⟨fun _ => by rw [GB3.out]; rfl, fun h => by rw [R.out] at h; cases h⟩, ?_⟩
          exact (hW5.setCell l2 _).setCell l2 _
end Go.Proofs.Ytdjbpbolliphkaa
