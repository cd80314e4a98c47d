/- SpB · SpS -/
import Derived.Test.YthlphmojldbpkaaGreatSpT
import Derived.Test.YthlphmojldbpkaaGreatTick
import Derived.Deep.CutRange

/- l5Bead: the specification's tick of one bead is the program's. -/
namespace Go.Proofs.YthlphmojldbpkaaGreat
open Go.RowKit
attribute [local go_sem] run_store_float run_store_complex

def BeadPost (mir : Int) (gr : Pt) (loss : Nat) (b : Bd) (e : Ending) : Prop :=
  (goOk gr b = true → e = .returned (.tuple #[.agg #[.complex .f32 (goBd mir gr loss b).1.1.1 (goBd mir gr loss b).1.1.2, .complex .f32 (goBd mir gr loss b).1.2.1 (goBd mir gr loss b).1.2.2], .bool true])) ∧
  (goOk gr b = false → e = .returned (.tuple #[.agg #[.complex .f32 b.1.1 b.1.2, .complex .f32 b.2.1 b.2.2], .bool false]))

set_option maxRecDepth 100000 in
set_option maxHeartbeats 8000000 in
theorem specBead_any (mir : Int) (gr : Pt) (loss : Nat) (s : Value) (a v : Pt) (w : World) (hm : inB mir 0 3 = true) (hg : finP gr) (ha : finP a) (hv : finP v) :
    Calls Tryz.prog 160 #[.agg #[.int .i64 mir, .complex .f32 gr.1 gr.2, .float .f32 loss, s], .agg #[.complex .f32 a.1 a.2, .complex .f32 v.1 v.2]] w fun e w' => BeadPost mir gr loss (a, v) e ∧ Below w.heap.size w w' := by
  obtain ⟨P1, hP1⟩ : ∃ P, P = plusP v gr := ⟨_, rfl⟩
  obtain ⟨P2, hP2⟩ : ∃ P, P = plusP a P1 := ⟨_, rfl⟩
  have cw1 : cwP P1 := by rw [hP1]; exact plus_cw hv hg
  have cw2 : cwP P2 := by rw [hP2]; exact plus_cw ha (cwP_fin cw1)
  have k1 := fun w => specPlus_any v gr w
  have k2 := fun w => specPlus_any a P1 w
  rw [← hP1] at k1
  rw [← hP2] at k2
  have K1 := Lib.hid k1
  have K2 := Lib.hid k2
  obtain ⟨e1, e2, e3⟩ := fold_eq hm cw2
  obtain ⟨r, hr⟩ : ∃ r, r = foldP mir P2 := ⟨_, rfl⟩
  have kf := fun w => specFoldPoint_any mir P2 w
  rw [e1, ← hr] at kf
  rw [← hr] at e2 e3
  have GO : goOk gr (a, v) = (pointB P1.1 P1.2 && pointB P2.1 P2.2) := by unfold goOk; rw [← hP1, ← hP2]
  have GB : goBd mir gr loss (a, v) = if r.2.1 == (0, false) then ((r.1, actP r.2.1.1 r.2.1.2 P1.1 P1.2), false) else ((r.1, slow loss (actP r.2.1.1 r.2.1.2 P1.1 P1.2)), true) := by unfold goBd; simp only; rw [← hP1, ← hP2, ← hr]
  obtain ⟨q, ⟨t, f⟩, ob⟩ := r
  dsimp only at e2 e3 GB
  rw [← e2] at GO
  simp only [foldV] at kf
  have KF := Lib.hid kf
  have GOH := Lib.hid GO
  have GBH := Lib.hid GB
  have C1 := Lib.hid cw1
  clear k1 k2 kf e1 e2 hr GO GB hP1 hP2 cw1 cw2
  go_enter Tryz.func160, Tryz.ntmps160
  go_wp2_with fail
  (with_reducible refine (K1.out _).mono ?_)
  rintro e w' ⟨rfl, n1, rfl⟩
  go_wp2_with fail
  obtain ⟨W, hWe⟩ : ∃ W, W = (((w.alloc (Obj.cells #[.int .i64 mir, .complex .f32 gr.1 gr.2, .float .f32 loss, s] 31)).alloc (Obj.cells #[.complex .f32 a.1 a.2, .complex .f32 v.1 v.2] 54)).alloc (Obj.cells #[.complex .f32 0 0, .complex .f32 0 0] 54)).drewN n1 := ⟨_, rfl⟩
  have hW : Below w.heap.size w W := by rw [hWe]; exact below_drewN (by (repeat (first | with_reducible assumption | exact Below.refl _ _ | (refine Below.setCell ?_ (by first | exact Nat.le_refl _ | (simp; done) | omega | (simp; omega)) _) | (refine below_drewN ?_ _) | (refine Below.drew ?_) | (refine Below.alloc ?_ (by first | exact Nat.le_refl _ | (simp; done) | omega | (simp; omega)) _) | (refine then_ ?_ (by with_reducible assumption)) | assumption | (refine then_ ?_ (by assumption))))) _
  have zW : W.heap.size = w.heap.size + 3 := by rw [hWe]; show (((w.alloc _).alloc _).alloc _).heap.size = _; simp
  have c0 : W.cell? ⟨w.heap.size, 0, none⟩ = some (.int .i64 mir) := by rw [hWe]; show (((w.alloc _).alloc _).alloc _).cell? _ = _; simp [go_sem]
  have c2 : W.cell? ⟨w.heap.size, 2, none⟩ = some (.float .f32 loss) := by rw [hWe]; show (((w.alloc _).alloc _).alloc _).cell? _ = _; simp [go_sem]
  have b0 : W.cell? ⟨w.heap.size + 1, 0, none⟩ = some (.complex .f32 a.1 a.2) := by rw [hWe]; show (((w.alloc _).alloc _).alloc _).cell? _ = _; simp [go_sem]
  have b1 : W.cell? ⟨w.heap.size + 1, 1, none⟩ = some (.complex .f32 v.1 v.2) := by rw [hWe]; show (((w.alloc _).alloc _).alloc _).cell? _ = _; simp [go_sem]
  have d0 : W.cell? ⟨w.heap.size + 1 + 1, 0, none⟩ = some (.complex .f32 0 0) := by rw [hWe]; show (((w.alloc _).alloc _).alloc _).cell? _ = _; simp [go_sem]
  have d1 : W.cell? ⟨w.heap.size + 1 + 1, 1, none⟩ = some (.complex .f32 0 0) := by rw [hWe]; show (((w.alloc _).alloc _).alloc _).cell? _ = _; simp [go_sem]
  have df : ∀ j, W.frozen? ⟨w.heap.size + 1 + 1, j, none⟩ = false := by intro j; rw [hWe]; show (((w.alloc _).alloc _).alloc _).frozen? _ = _; simp [go_sem]
  have ZW := Lib.hid zW
  have lb0 : w.heap.size < W.heap.size := by omega
  have lb1 : w.heap.size + 1 < W.heap.size := by omega
  have lb2 : w.heap.size + 1 + 1 < W.heap.size := by omega
  have l2 : w.heap.size ≤ w.heap.size + 1 + 1 := by omega
  rw [← hWe]
  clear hWe zW
  go_cut [7, 8, 9] (fun v7 v8 v9 wx => ∃ g8 : Nat, v7 = .complex .f32 q.1 q.2 ∧ v8 = .pointer (some ⟨g8, 0, none⟩) ∧ v9 = .bool ob ∧ W.heap.size ≤ g8 ∧ wx.cell? ⟨g8, 0, none⟩ = some (.int .i64 t) ∧ wx.cell? ⟨g8, 1, none⟩ = some (.bool f) ∧ Below W.heap.size W wx)
  case first =>
    go_region_held3 (fun w' => (∀ b o, b < W.heap.size → w'.cell? ⟨b, o, none⟩ = W.cell? ⟨b, o, none⟩) ∧ Below W.heap.size W w') (first | assumption | exact startS _ | exact startSM _ _ | exact stepS (by assumption) (by assumption) | exact ofBel (by (repeat (first | with_reducible assumption | exact Below.refl _ _ | (refine Below.setCell ?_ (by first | exact Nat.le_refl _ | (simp; done) | omega | (simp; omega)) _) | (refine below_drewN ?_ _) | (refine Below.drew ?_) | (refine Below.alloc ?_ (by first | exact Nat.le_refl _ | (simp; done) | omega | (simp; omega)) _) | (refine then_ ?_ (by with_reducible assumption)) | assumption | (refine then_ ?_ (by assumption)))))) (first | (go_at_call 102; (with_reducible refine (K2.out _).mono ?_); rintro e w4 ⟨rfl, n2, rfl⟩) | (go_at_call 134; (with_reducible refine (KF.out _).mono ?_); rintro e w5 ⟨rfl, hb5⟩; have hB5 : Below W.heap.size W w5 := (by (repeat (first | with_reducible assumption | exact Below.refl _ _ | (refine Below.setCell ?_ (by first | exact Nat.le_refl _ | (simp; done) | omega | (simp; omega)) _) | (refine below_drewN ?_ _) | (refine Below.drew ?_) | (refine Below.alloc ?_ (by first | exact Nat.le_refl _ | (simp; done) | omega | (simp; omega)) _) | (refine then_ ?_ (by with_reducible assumption)) | assumption | (refine then_ ?_ (by assumption))))); have z5 := hB5.size; try (refine keepCF_then (p := ⟨W.heap.size, 0, none⟩) (v := .int .i64 0) hb5 ?_ ?_ ?_; (focus (show (W.alloc _).cell? _ = _; simp [go_sem]; done)); (focus (show (W.alloc _).frozen? _ = _; simp [go_sem]; done)); intro kc0 kf0 lk0; dsimp only at lk0; refine keepCF_then (p := ⟨W.heap.size, 1, none⟩) (v := .bool false) hb5 ?_ ?_ ?_; (focus (show (W.alloc _).cell? _ = _; simp [go_sem]; done)); (focus (show (W.alloc _).frozen? _ = _; simp [go_sem]; done)); intro kc1 kf1 lk1)))
    all_goals
      go_wp2_with fail
      go_meet
      first
        | exact ⟨w5.heap.size, rfl, rfl, rfl, z5, by simp [go_sem], by simp [go_sem], hB5.alloc z5 _⟩
        | exact ⟨W.heap.size, rfl, rfl, rfl, Nat.le_refl _, by simp [go_sem, kc0], by simp [go_sem, kc1], (hB5.setCell (Nat.le_refl _) _).setCell (Nat.le_refl _) _⟩
  case rest =>
    obtain ⟨g8, rfl, rfl, rfl, hg8, t0, t1, hwc⟩ := hcut
    have hWc := then_ hW hwc
    have f0 := keepF d0 (df 0) hwc
    have f1 := keepF d1 (df 1) hwc
    have d0 := keepC d0 hwc
    have d1 := keepC d1 hwc
    have b0 := keepC b0 hwc
    have b1 := keepC b1 hwc
    have c2 := keepC c2 hwc
    have zc := hwc.size
    have lc0 : w.heap.size < wc.heap.size := by omega
    have lc1 : w.heap.size + 1 < wc.heap.size := by omega
    have lc2 : w.heap.size + 1 + 1 < wc.heap.size := by omega
    have lg8 := World.block_lt_of_cell? _ _ t0
    dsimp only at lg8
    have n8 : ¬ g8 = w.heap.size + 1 + 1 := by omega
    have n8' : ¬ w.heap.size + 1 + 1 = g8 := by omega
    have kp := fun w => specIsPoint_any P1.1 P1.2 w
    clear df hwc c0
    cases h1 : pointB P1.1 P1.2
    · have R := Lib.hid (show goOk gr (a, v) = false by rw [GOH.out, h1]; rfl)
      rw [h1] at kp
      have KP := Lib.hid kp
      clear kp
      go_wp2_with fail
      (with_reducible refine (KP.out _).mono ?_)
      rintro e w' ⟨rfl, n3, rfl⟩
      go_wp2
      refine bodyPost_ret (v := .tuple #[.agg #[.complex .f32 a.1 a.2, .complex .f32 v.1 v.2], .bool false]) (by simp [results, Tryz.results160, go_sem, d0, d1]) rfl ⟨⟨fun h => (by rw [R.out] at h; cases h), fun _ => rfl⟩, ?_⟩
      exact ((below_drewN hWc _).setCell l2 _).setCell l2 _
    · rw [h1] at kp
      have KP := Lib.hid kp
      clear kp
      cases ob
      · have R := Lib.hid (show goOk gr (a, v) = false by rw [GOH.out, Bool.and_false])
        go_wp2_with fail
        (with_reducible refine (KP.out _).mono ?_)
        rintro e w' ⟨rfl, n3, rfl⟩
        go_wp2
        refine bodyPost_ret (v := .tuple #[.agg #[.complex .f32 a.1 a.2, .complex .f32 v.1 v.2], .bool false]) (by simp [results, Tryz.results160, go_sem, d0, d1]) rfl ⟨⟨fun h => (by rw [R.out] at h; cases h), fun _ => rfl⟩, ?_⟩
        exact ((below_drewN hWc _).setCell l2 _).setCell l2 _
      · have R := Lib.hid (show goOk gr (a, v) = true by rw [GOH.out, h1]; rfl)
        obtain ⟨S, hS⟩ : ∃ S, S = actP t f P1.1 P1.2 := ⟨_, rfl⟩
        have ka := fun w => l1Act_any t f P1.1 P1.2 w e3
        rw [actS_actI (show cwP (P1.1, P1.2) from C1.out), ← actP_yes e3 h1, ← hS] at ka
        simp only [cxV] at ka
        have KA := Lib.hid ka
        have kn := fun wx => run_neq_symT t 0 f false wx
        obtain ⟨z, hz⟩ : ∃ z, z = ((t, f) == ((0 : Int), false)) := ⟨_, rfl⟩
        have GB2 := GBH.out
        rw [← hz, ← hS] at GB2
        rw [← hz] at kn
        have GB3 := Lib.hid GB2
        clear ka hS hz GB2 b0 b1
        go_wp2_with fail
        (with_reducible refine (KP.out _).mono ?_)
        rintro e w' ⟨rfl, n3, rfl⟩
        go_wp2_with fail
        (with_reducible refine (KA.out _).mono ?_)
        rintro e w5 ⟨rfl, hb5⟩
        obtain ⟨X, hX⟩ : ∃ X, X = wc.drewN n3 := ⟨_, rfl⟩
        have hX1 : Below wc.heap.size wc X := by rw [hX]; exact below_drewN (Below.refl _ _) _
        rw [← hX] at hb5
        have hb := then_ hX1 hb5
        have hW5 := then_ hWc hb
        have f0 := keepF d0 f0 hb
        have f1 := keepF d1 f1 hb
        have d0 := keepC d0 hb
        have d1 := keepC d1 hb
        have c2 := keepC c2 hb
        have t0 := keepC t0 hb
        have t1 := keepC t1 hb
        have z5 := hb.size
        have lc0 : w.heap.size < w5.heap.size := by omega
        have lc2 : w.heap.size + 1 + 1 < w5.heap.size := by omega
        have lg8 : g8 < w5.heap.size := by omega
        clear hX hX1 hb5 hb
        cases z
        · go_wp2_with (first
            | (go_at_call 159; (with_reducible refine (l1Minus_any _ _ _).mono ?_); rintro e w' ⟨rfl, n4, rfl⟩)
            | (go_at_call 161; (with_reducible refine (l1Times_any _ _ _).mono ?_); rintro e w' ⟨rfl, n5, rfl⟩))
          refine bodyPost_ret (v := .tuple #[.agg #[.complex .f32 q.1 q.2, .complex .f32 (slow loss S).1 (slow loss S).2], .bool true]) (by simp [results, Tryz.results160, go_sem, d0, d1, slow]) rfl ⟨⟨fun _ => by rw [GB3.out]; rfl, fun h => by rw [R.out] at h; cases h⟩, ?_⟩
          exact ((below_drewN hW5 _).setCell l2 _).setCell l2 _
        · go_wp2
          refine bodyPost_ret (v := .tuple #[.agg #[.complex .f32 q.1 q.2, .complex .f32 S.1 S.2], .bool true]) (by simp [results, Tryz.results160, go_sem, d0, d1]) rfl ⟨⟨fun _ => by rw [GB3.out]; rfl, fun h => by rw [R.out] at h; cases h⟩, ?_⟩
          exact (hW5.setCell l2 _).setCell l2 _
end Go.Proofs.YthlphmojldbpkaaGreat

/- StepTumble: the specification's. -/
namespace Go.Proofs.YthlphmojldbpkaaGreat
open Go.RowKit
attribute [local go_sem] run_store_float run_store_complex

def StepPost (mir : Int) (gr : Pt) (loss : Nat) (n : Nat) (bs : List Bd) (base : Nat) (e : Ending) (w' : World) : Prop :=
  (allGo gr bs = true → ∃ B d, e = .returned (.tuple #[tumV mir gr loss (.slice B n d), .bool true]) ∧ w'.ownsRow base 54 2 (.slice B n d) n (flat bdC (goL mir gr loss bs))) ∧
  (allGo gr bs = false → ∃ B d, e = .returned (.tuple #[tumV mir gr loss (.slice B n d), .bool false]) ∧ w'.ownsRow base 54 2 (.slice B n d) n (flat bdC bs))

set_option maxRecDepth 100000 in
set_option maxHeartbeats 8000000 in
theorem specStep_any (mir : Int) (gr : Pt) (loss : Nat) (A : Option Addr) (n c : Nat) (bs : List Bd) (w : World) (hn : n ≤ 8) (ht : tumB mir gr loss bs = true) (ha : Rd bdC 2 w w.heap.size A n bs) :
    Calls Tryz.prog 153 #[.agg #[.int .i64 mir, .complex .f32 gr.1 gr.2, .float .f32 loss, .slice A n c]] w fun e w' => StepPost mir gr loss n bs w.heap.size e w' ∧ Below w.heap.size w w' := by
  have HL := Lib.hid ha.1
  obtain ⟨gl, hgl⟩ : ∃ gl, gl = goL mir gr loss bs := ⟨_, rfl⟩
  have GL := Lib.hid hgl
  have hgll : gl.length = bs.length := by rw [hgl]; simp [goL]
  have hp := tumB_parts.1 ht
  have HP := Lib.hid hp
  clear hgl
  go_enter Tryz.func153, Tryz.ntmps153
  go_wp2_with fail
  obtain ⟨W, hWe⟩ : ∃ W, W = (w.alloc (Obj.cells #[.int .i64 mir, .complex .f32 gr.1 gr.2, .float .f32 loss, .slice A n c] 31)).alloc (Obj.cells #[.int .i64 0, .complex .f32 0 0, .float .f32 0, .slice none 0 0] 31) := ⟨_, rfl⟩
  have hW : Below w.heap.size w W := by rw [hWe]; (repeat (first | with_reducible assumption | exact Below.refl _ _ | (refine Below.setCell ?_ (by first | exact Nat.le_refl _ | (simp; done) | omega | (simp; omega)) _) | (refine below_drewN ?_ _) | (refine Below.drew ?_) | (refine Below.alloc ?_ (by first | exact Nat.le_refl _ | (simp; done) | omega | (simp; omega)) _) | (refine then_ ?_ (by with_reducible assumption)) | assumption | (refine then_ ?_ (by assumption))))
  have zW : W.heap.size = w.heap.size + 2 := by rw [hWe]; simp
  have CB : BoxT W w.heap.size mir gr loss (.slice A n c) := by rw [hWe]; exact ⟨by simp [go_sem], by simp [go_sem], by simp [go_sem], by simp [go_sem]⟩
  have DB : BoxT W (w.heap.size + 1) 0 (0, 0) 0 (.slice none 0 0) := by rw [hWe]; exact ⟨by simp [go_sem], by simp [go_sem], by simp [go_sem], by simp [go_sem]⟩
  have df : ∀ j, W.frozen? ⟨w.heap.size + 1, j, none⟩ = false := by intro j; rw [hWe]; simp [go_sem]
  have DF := Lib.hid df
  have CW := Lib.hid CB
  have DW := Lib.hid DB
  rw [← hWe]
  clear hWe df DB
  have ZW := Lib.hid zW
  have lW0 : w.heap.size < W.heap.size := by omega
  have lW1 : w.heap.size + 1 < W.heap.size := by omega
  have l1 : w.heap.size ≤ w.heap.size + 1 := by omega
  clear zW
  refine (specCopy_any mir gr loss A n c bs _ hn (ha.step hW)).mono ?_
  rintro e w2 ⟨B, d, rfl, ho2, hb2⟩
  obtain ⟨c0, c1, c2, c3⟩ := CB.keep hb2
  have z2 := hb2.size
  have lb0 : w.heap.size < w2.heap.size := by omega
  clear CB
  go_wp2_with fail
  obtain ⟨V, hVe⟩ : ∃ V, V = w2.alloc (Obj.cells #[.int .i64 mir, .complex .f32 gr.1 gr.2, .float .f32 loss, .slice B n d] 31) := ⟨_, rfl⟩
  have hV : Below w2.heap.size w2 V := by rw [hVe]; (repeat (first | with_reducible assumption | exact Below.refl _ _ | (refine Below.setCell ?_ (by first | exact Nat.le_refl _ | (simp; done) | omega | (simp; omega)) _) | (refine below_drewN ?_ _) | (refine Below.drew ?_) | (refine Below.alloc ?_ (by first | exact Nat.le_refl _ | (simp; done) | omega | (simp; omega)) _) | (refine then_ ?_ (by with_reducible assumption)) | assumption | (refine then_ ?_ (by assumption))))
  have EB : BoxT V w2.heap.size mir gr loss (.slice B n d) := by rw [hVe]; exact boxT_new _ _ _ _ _ _
  rw [← hVe]
  have OFB := Lib.hid (off_ge ho2 (Nat.le_refl _))
  have oV := owns_below ho2 hV
  have hbV := then_ hb2 hV
  clear hVe ho2 c0 c1 c2 c3 hV hb2
  refine (specIsTumble_yes mir gr loss A n c bs _ ht hn (ha.step (then_ hW hbV))).mono ?_
  rintro e w3 ⟨rfl, hb3⟩
  have EB := EB.keep hb3
  have oV := Lib.hid (owns_below oV hb3)
  have hb3' := Lib.hid (then_ hbV hb3)
  obtain ⟨c0, c1, c2, c3⟩ := CW.out.keep hb3'.out
  have z3 := hb3'.out.size
  have lb0 : w.heap.size < w3.heap.size := by omega
  clear hbV hb3 ht
  go_wp2_with fail
  go_loopw [18] (fun i wr => ∃ k : Nat, k ≤ n ∧ i = .int .i64 k ∧ (∀ (i : Nat) b, i < k → bs[i]? = some b → goOk gr b = true) ∧ wr.ownsRow W.heap.size 54 2 (.slice B n d) n (flat bdC (mixL gl bs k)) ∧ BoxT wr w2.heap.size mir gr loss (.slice B n d) ∧ w3.heap.size ≤ wr.heap.size ∧ Below W.heap.size W wr) (fun i _ => n - (intOf i).toNat)
  case atStart => exact ⟨0, Nat.zero_le _, rfl, fun i b h => by omega, by rw [mixL_zero]; exact oV.out, EB, Nat.le_refl _, hb3'.out⟩
  case round =>
    clear EB oV hb3' c0 c1 c2 c3
    obtain ⟨k, hk, rfl, hall, hob, EB, hsz, hw⟩ := hrel
    have OB := Lib.hid hob
    have HALL := Lib.hid hall
    clear hob hall
    obtain ⟨c0, c1, c2, c3⟩ := CW.out.keep hw
    obtain ⟨d0, d1, d2, d3⟩ := DW.out.keep hw
    have fr : ∀ j, wr.frozen? ⟨w.heap.size + 1, j, none⟩ = false := fun j => (hw.frozen (p := ⟨w.heap.size + 1, j, none⟩) lW1).trans (DF.out j)
    have hWr : Below w.heap.size w wr := then_ hW hw
    have hle : w.heap.size ≤ wr.heap.size := hWr.size
    have lr0 : w.heap.size < wr.heap.size := by omega
    have lr1 : w.heap.size + 1 < wr.heap.size := by omega
    have lr3 := EB.lt
    by_cases hlt : k < n
    · obtain ⟨bb, off, a, v, rfl, hbl, hx, x0, x1⟩ := (ha.step hWr).bd hlt
      obtain ⟨gB, rfl, _, _⟩ := owns_slice_at OB.out (by omega)
      have hki : (k : Int) < (n : Int) := by omega
      have hk0 : (0 : Int) ≤ (k : Int) := by omega
      have HX := Lib.hid hx
      have okb := ok_fin (List.all_eq_true.1 HP.out.2.2.2.2 (a, v) (List.mem_of_getElem? hx))
      have kb := fun s w => specBead_any mir gr loss s a v w HP.out.1 (point_fin HP.out.2.1) okb.1 okb.2
      have KB := Lib.hid kb
      have ra := ha.step hWr
      have hner : ¬ wr.heap.size = w2.heap.size := by omega
      clear hx kb okb
      obtain ⟨e0, e1, e2, e3⟩ := id EB
      go_wp2_with fail
      obtain ⟨X, hXe⟩ : ∃ X, X = wr.alloc (Obj.cells #[.complex .f32 a.1 a.2, .complex .f32 v.1 v.2] 54) := ⟨_, rfl⟩
      have hX : Below wr.heap.size wr X := by rw [hXe]; (repeat (first | with_reducible assumption | exact Below.refl _ _ | (refine Below.setCell ?_ (by first | exact Nat.le_refl _ | (simp; done) | omega | (simp; omega)) _) | (refine below_drewN ?_ _) | (refine Below.drew ?_) | (refine Below.alloc ?_ (by first | exact Nat.le_refl _ | (simp; done) | omega | (simp; omega)) _) | (refine then_ ?_ (by with_reducible assumption)) | assumption | (refine then_ ?_ (by assumption))))
      rw [← hXe]
      clear hXe
      (with_reducible refine (KB.out _ _).mono ?_)
      rintro e w5 ⟨⟨hy, hno⟩, hb5⟩
      have hX5 := then_ hX hb5
      have z5 := hX5.size
      have hw5 := then_ hw hX5
      have EB5 := EB.keep hX5
      obtain ⟨e0, e1, e2, e3⟩ := id EB5
      obtain ⟨c0, c1, c2, c3⟩ := CW.out.keep hw5
      have lr3 := EB5.lt
      have O5 := Lib.hid (owns_below OB.out hX5)
      clear hX hb5 x0 x1 hX5 EB
      cases hgo : goOk gr (a, v)
      · obtain rfl := hno hgo
        have NO := Lib.hid (show allGo gr bs = false from allX_no HX.out hgo)
        obtain ⟨d0, d1, d2, d3⟩ := DW.out.keep hw5
        have fr : ∀ j, w5.frozen? ⟨w.heap.size + 1, j, none⟩ = false := fun j => (hw5.frozen (p := ⟨w.heap.size + 1, j, none⟩) lW1).trans (DF.out j)
        have lr1 : w.heap.size + 1 < w5.heap.size := by omega
        have lr0 : w.heap.size < w5.heap.size := by omega
        clear hy hno hgo
        go_wp2_with fail
        refine (specCopy_any mir gr loss _ n c bs _ hn (ha.step ?_)).mono ?_
        · exact (then_ hW hw5).alloc (then_ hW hw5).size _
        rintro e w9 ⟨B9, d9, rfl, ho9, hb9⟩
        obtain ⟨Y, hY⟩ : ∃ Y, Y = w5.alloc (Obj.cells #[.complex .f32 a.1 a.2, .complex .f32 v.1 v.2] 54) := ⟨_, rfl⟩
        have hY5 : Below w5.heap.size w5 Y := by rw [hY]; (repeat (first | with_reducible assumption | exact Below.refl _ _ | (refine Below.setCell ?_ (by first | exact Nat.le_refl _ | (simp; done) | omega | (simp; omega)) _) | (refine below_drewN ?_ _) | (refine Below.drew ?_) | (refine Below.alloc ?_ (by first | exact Nat.le_refl _ | (simp; done) | omega | (simp; omega)) _) | (refine then_ ?_ (by with_reducible assumption)) | assumption | (refine then_ ?_ (by assumption))))
        rw [← hY] at hb9 ho9
        have h59 := then_ hY5 hb9
        have f0 := keepF d0 (fr 0) h59
        have f1 := keepF d1 (fr 1) h59
        have f2 := keepF d2 (fr 2) h59
        have f3 := keepF d3 (fr 3) h59
        have d0 := keepC d0 h59
        have d1 := keepC d1 h59
        have d2 := keepC d2 h59
        have d3 := keepC d3 h59
        have hW9 := then_ (then_ hW hw5) h59
        have z9 := h59.size
        have lY : w.heap.size + 1 < Y.heap.size := by have := hY5.size; omega
        have lY2 : w.heap.size ≤ Y.heap.size := by omega
        have O9 := Lib.hid ho9
        clear hY hY5 hb9 ho9 h59 fr
        go_wp2
        refine bodyPost_ret (v := .tuple #[tumV mir gr loss (.slice B9 n d9), .bool false]) (by simp [results, Tryz.results153, go_sem, tumV, d0, d1, d2, d3]) rfl ⟨⟨fun h => (by rw [NO.out] at h; cases h), fun _ => ⟨B9, d9, rfl, ?_⟩⟩, (((hW9.setCell l1 _).setCell l1 _).setCell l1 _).setCell l1 _⟩
        exact owns_mono (ownsRow_setCell_below (ownsRow_setCell_below (ownsRow_setCell_below (ownsRow_setCell_below O9.out lY _) lY _) lY _) lY _) lY2
      · obtain rfl := hy hgo
        obtain ⟨r, hr⟩ : ∃ r, r = (goBd mir gr loss (a, v)).1 := ⟨_, rfl⟩
        rw [← hr]
        obtain ⟨q, s⟩ := r
        have hyB : gl[k]? = some (q, s) := by rw [GL.out]; unfold goL; rw [List.getElem?_map, HX.out, hr]; rfl
        have SB := Lib.hid (mixL_set hgll hyB)
        have LB := Lib.hid (mixL_len (k := k) hgll (by have := HL.out; omega))
        have lBW : W.heap.size ≤ gB := (OB.out.lt gB rfl).1
        have lgB := (O5.out.lt gB rfl).2
        have hneE : ¬ w5.heap.size = gB := by omega
        have hneE2 : ¬ gB = w5.heap.size := by omega
        have hne2 : ¬ w2.heap.size = gB := fun e => OFB.out (by rw [e]; rfl)
        obtain ⟨u0, hu0⟩ := owns_cell O5.out (k * 2) (by omega)
        obtain ⟨u1, hu1⟩ := owns_cell O5.out (k * 2 + 1) (by omega)
        have fB0 := O5.out.frozenAt (k * 2)
        have fB1 := O5.out.frozenAt (k * 2 + 1)
        have hallk : ∀ (i : Nat) b, i < k + 1 → bs[i]? = some b → goOk gr b = true := fun i b hi hb => by
          by_cases e : i = k
          · subst e
            rw [HX.out] at hb
            injection hb with hb
            rw [← hb]; exact hgo
          · exact HALL.out i b (by omega) hb
        have HALLK := Lib.hid hallk
        dsimp only
        clear hy hno hyB hr hallk HALL hgo c0 c1 c2 c3
        go_wp2
        go_roundw
        case rel =>
          have hSS := setKeep (setKeep (W := w5) (gs := gB) (B := w5.heap.size) (fun _ _ _ _ => rfl) (k * 2) (.complex .f32 q.1 q.2)) (k * 2 + 1) (.complex .f32 s.1 s.2)
          have E6 : BoxT ((w5.setCell ⟨gB, k * 2, none⟩ (.complex .f32 q.1 q.2)).setCell ⟨gB, k * 2 + 1, none⟩ (.complex .f32 s.1 s.2)) w2.heap.size mir gr loss (.slice (some ⟨gB, 0, none⟩) n d) :=
            ⟨(hSS w2.heap.size 0 lr3 hne2).trans e0, (hSS w2.heap.size 1 lr3 hne2).trans e1, (hSS w2.heap.size 2 lr3 hne2).trans e2, (hSS w2.heap.size 3 lr3 hne2).trans e3⟩
          refine ⟨k + 1, by omega, by go_num, HALLK.out, ?_, E6.keep (Below.alloc (Below.refl _ _) (Nat.le_refl _) _), by simp; omega, ((hw5.setCell lBW _).setCell lBW _).alloc (by simp; omega) _⟩
          rw [← SB.out, flat_setBd (by rw [LB.out]; have := HL.out; omega)]
          exact ((O5.out.stored (k * 2) _).1.stored (k * 2 + 1) _).1.alloc _
        case measure => simp [intOf]; omega
    · obtain rfl : k = n := by omega
      have YES := Lib.hid (show allGo gr bs = true from allX_yes (fun i b h1 => HALL.out i b (by have := (List.getElem?_eq_some_iff.1 h1).1; have := HL.out; omega) h1))
      have eB : mixL gl bs k = gl := by rw [← HL.out]; exact mixL_all hgll
      rw [eB, GL.out] at OB
      obtain ⟨e0, e1, e2, e3⟩ := id EB
      have f0 := fr 0
      have f1 := fr 1
      have f2 := fr 2
      have f3 := fr 3
      have hWle := hW.size
      clear eB c0 c1 c2 c3
      go_wp2
      refine bodyPost_ret (v := .tuple #[tumV mir gr loss (.slice B k d), .bool true]) (by simp [results, Tryz.results153, go_sem, tumV, d0, d1, d2, d3]) rfl ⟨⟨fun _ => ⟨B, d, rfl, ?_⟩, fun h => by rw [YES.out] at h; cases h⟩, (((hWr.setCell l1 _).setCell l1 _).setCell l1 _).setCell l1 _⟩
      exact owns_mono (ownsRow_setCell_below (ownsRow_setCell_below (ownsRow_setCell_below (ownsRow_setCell_below OB.out lW1 _) lW1 _) lW1 _) lW1 _) hWle
end Go.Proofs.YthlphmojldbpkaaGreat
