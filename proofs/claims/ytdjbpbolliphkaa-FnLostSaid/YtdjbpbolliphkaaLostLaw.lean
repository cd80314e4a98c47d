
/- FnLost: without gravity no speed grows, and without loss none shrinks. -/
import Derived.Test.YtdjbpbolliphkaaEner
import Derived.Test.YtdjbpbolliphkaaSpR
import Derived.Test.YtdjbpbolliphkaaDrawTum2
import Derived.Test.YtdjbpbolliphkaaOpen
import Derived.ProofKit
import Derived.ChangeOld
import Derived.Deep.RegionHeld3
import Derived.Deep.QuietTactic
import Derived.BigQuiet
import Derived.Below
import Derived.Laws.Cover3
namespace Go.Proofs.Ytdjbpbolliphkaa
open Go.ChangeShapes Go.WideShapes Go.ChangeAt Go.RowKit
attribute [local go_sem] run_store_float run_store_complex

/-- RunTumble of a valid tumble, with the row that is the callee's own -/
theorem runT_own (mir : Int) (gr : Pt) (loss : Nat) (n : Nat) (A : Option Addr) (c : Nat) (bs : List Bd) (N : Nat) (w : World) (hn : n = bs.length) (ht : tumB mir gr loss bs = true) (hN : N ≤ 64) (ha : Rd bdC 2 w w.heap.size A n bs) :
    Calls Try.prog 13 #[.agg #[.int .i64 mir, .complex .f32 gr.1 gr.2, .float .f32 loss, .slice A n c], .int .i64 N] w fun e w' => ∃ B d, e = .returned (.tuple #[tumV mir gr loss (.slice B n d), .bool (runS mir gr loss bs N)]) ∧ w'.ownsRow w.heap.size 33 2 (.slice B n d) n (flat bdC (runB mir gr loss bs N)) ∧ Below w.heap.size w w' := by
  subst hn
  refine (runTumble_any mir gr loss A bs.length c bs N w (tumB_parts.1 ht).2.2.2.1 ha).mono ?_
  rintro e w' ⟨⟨hy, hno⟩, hb⟩
  rw [runOk_up ht hN] at hno
  cases hr : runUp mir gr loss bs N with
  | none =>
    obtain ⟨B, d, rfl, ho⟩ := hno hr
    have e1 : runS mir gr loss bs N = false := by unfold runS; rw [hr]; rfl
    refine ⟨B, d, by rw [e1], ?_, hb⟩
    rw [runB_no e1]
    exact ho
  | some r =>
    obtain ⟨b, cc⟩ := r
    obtain ⟨B, d, rfl, ho⟩ := hy b cc (by rw [runOk_up ht hN]; exact hr)
    have e1 : runS mir gr loss bs N = true := by unfold runS; rw [hr]; rfl
    have e2 : runB mir gr loss bs N = b := by unfold runB; rw [hr]
    refine ⟨B, d, by rw [e1], ?_, hb⟩
    rw [e2]
    exact ho
theorem BoxT.off {w : World} {b : Nat} {mir : Int} {gr : Pt} {loss : Nat} {s : Value} (h : BoxT w b mir gr loss s) {p : Addr} (hp : ¬ p.block = b) (v : Value) : BoxT (w.setCell p v) b mir gr loss s := by
  have k := fun j => World.cell?_setCell_other w p ⟨b, j, none⟩ v (fun e => hp (by rw [e]))
  exact ⟨(k 0).trans h.1, (k 1).trans h.2.1, (k 2).trans h.2.2.1, (k 3).trans h.2.2.2⟩

set_option maxRecDepth 100000 in
set_option maxHeartbeats 8000000 in
theorem lawLost (A : Option Addr) (m c : Nat) (bs : List Int) (w : World) (hr : Rd byteC 1 w w.heap.size A m bs) (hb : ∀ x ∈ bs, 0 ≤ x ∧ x ≤ 255) :
    Calls Try.prog 6 #[.slice A m c] w fun e w' => e = .returned (.bool true) ∧ Below w.heap.size w w' := by
  by_cases hbig : (4096 : Int) < m
  · have hd : decide ((4096 : Int) < m) = true := by simp [hbig]
    go_enter Try.func6, Try.ntmps6
    go_wp2_with (go_at_call 8; refine (bigT_any _ _ _ _).mono ?_; rintro e w' ⟨rfl, rfl⟩; simp only [hd])
    go_ret
    exact ⟨rfl, by (repeat (first | with_reducible assumption | exact Below.refl _ _ | (refine Below.setCell ?_ (by first | exact Nat.le_refl _ | (simp; done) | omega | (simp; omega)) _) | (refine below_drewN ?_ _) | (refine Below.drew ?_) | (refine Below.alloc ?_ (by first | exact Nat.le_refl _ | (simp; done) | omega | (simp; omega)) _) | (refine then_ ?_ (by with_reducible assumption)) | assumption | (refine then_ ?_ (by assumption))))⟩
  · have hd : decide ((4096 : Int) < m) = false := by simp [hbig]
    have hm : m ≤ 4096 := by omega
    go_enter Try.func6, Try.ntmps6
    go_wp2_with (go_at_call 8; refine (bigT_any _ _ _ _).mono ?_; rintro e w' ⟨rfl, rfl⟩; simp only [hd])
    refine (drawTumble_any A m c bs _ hm hr hb).mono ?_
    rintro e w1 ⟨mir, gr, loss, xs, O, C, N, hN, hxl, ht, rfl, ho1, hb1⟩
    have HT := Lib.hid (tum_still ht)
    obtain ⟨n, hn⟩ : ∃ n, n = xs.length := ⟨_, rfl⟩
    simp only [tumV]
    rw [← hn] at ho1 hxl ⊢
    have HN := Lib.hid hn
    have O1 := Lib.hid ho1
    have OFM := Lib.hid (off_ge ho1 (Nat.le_refl _))
    have hle := hb1.size
    clear ht ho1 hn
    go_upto_region 4 with fail
    obtain ⟨V1, hV1⟩ : ∃ V, V = w1.alloc (Obj.cells #[.int .i64 mir, .complex .f32 gr.1 gr.2, .float .f32 loss, .slice O n C] 37) := ⟨_, rfl⟩
    have bV1 : Below w1.heap.size w1 V1 := by rw [hV1]; (repeat (first | with_reducible assumption | exact Below.refl _ _ | (refine Below.setCell ?_ (by first | exact Nat.le_refl _ | (simp; done) | omega | (simp; omega)) _) | (refine below_drewN ?_ _) | (refine Below.drew ?_) | (refine Below.alloc ?_ (by first | exact Nat.le_refl _ | (simp; done) | omega | (simp; omega)) _) | (refine then_ ?_ (by with_reducible assumption)) | assumption | (refine then_ ?_ (by assumption))))
    have BM : BoxT V1 w1.heap.size mir gr loss (.slice O n C) := by rw [hV1]; exact boxT_new _ _ _ _ _ _
    have fM : ∀ j, V1.frozen? ⟨w1.heap.size, j, none⟩ = false := by intro j; rw [hV1]; simp [go_sem]
    rw [← hV1]
    have O2 := Lib.hid (owns_below O1.out bV1)
    have B1 := then_ hb1 bV1
    have lM := BM.lt
    obtain ⟨m0, m1, m2, m3⟩ := id BM
    have fM1 := fM 1
    clear hV1 bV1 hb1 O1
    go_upto_region 5 with fail
    obtain ⟨V2, hV2⟩ : ∃ V, V = V1.setCell ⟨w1.heap.size, 1, none⟩ (.complex .f32 0 0) := ⟨_, rfl⟩
    have BM : BoxT V2 w1.heap.size mir (0, 0) loss (.slice O n C) := by rw [hV2]; exact ⟨by simp [go_sem, m0], by simp [go_sem, m1], by simp [go_sem, m2], by simp [go_sem, m3]⟩
    have fM : ∀ j, V2.frozen? ⟨w1.heap.size, j, none⟩ = false := by rw [hV2]; exact frS fM _ _
    have B2 : Below w.heap.size w V2 := by rw [hV2]; exact B1.setCell hle _
    have O3 := Lib.hid (show V2.ownsRow w.heap.size 33 2 (.slice O n C) n (flat bdC xs) by rw [hV2]; exact own_set O2.out OFM.out _ _)
    have rM : Rd bdC 2 V2 V2.heap.size O n xs := Rd.of_own bdC_len HN.out.symm O3.out
    rw [← hV2]
    have lM := BM.lt
    have KN := Lib.hid (fun w h => runT_own mir (0, 0) loss n O C xs N w HN.out HT.out.1 (by omega) h)
    have KS := Lib.hid (fun w h => specRun_any mir (0, 0) loss O n C xs N w hxl (by omega) HT.out.1 h)
    have KF := Lib.hid (fun w h => runT_len mir (0, 0) 0 n O C xs N w HN.out HT.out.2 (by omega) h)
    clear hV2 B1 O2 m0 m1 m2 m3 fM1
    obtain ⟨m0, m1, m2, m3⟩ := id BM
    dsimp only at m1
    go_wp2_with fail
    refine (KN.out _ rM).mono ?_
    rintro e w2 ⟨B2', d2, rfl, oa2, hb2⟩
    have OFA := Lib.hid (off_lt oa2 lM)
    have LO := Lib.hid (lost HT.out.1 N)
    have TA := Lib.hid (runB_tum HT.out.1 N)
    obtain ⟨xa, hxa⟩ : ∃ xa, xa = runB mir (0, 0) loss xs N := ⟨_, rfl⟩
    obtain ⟨ok, hok⟩ : ∃ ok, ok = runS mir (0, 0) loss xs N := ⟨_, rfl⟩
    rw [← hxa] at oa2 LO TA
    have hxal : xa.length = n := by rw [hxa, runB_len]; exact HN.out.symm
    rw [← hok] at KS LO ⊢
    have BM := BM.keep hb2
    have fM := frB fM hb2 lM
    have O4 := Lib.hid (owns_below O3.out hb2)
    have rM := rM.step hb2
    have B3 := then_ B2 hb2
    have lM := BM.lt
    simp only [tumV]
    clear hxa hok hb2 B2 KN O3 m0 m1 m2 m3
    obtain ⟨m0, m1, m2, m3⟩ := id BM
    dsimp only at m1
    go_wp2_with fail
    obtain ⟨V3, hV3⟩ : ∃ V, V = w2.alloc (Obj.cells #[.int .i64 mir, .complex .f32 0 0, .float .f32 loss, .slice B2' n d2] 37) := ⟨_, rfl⟩
    have bV3 : Below w2.heap.size w2 V3 := by rw [hV3]; (repeat (first | with_reducible assumption | exact Below.refl _ _ | (refine Below.setCell ?_ (by first | exact Nat.le_refl _ | (simp; done) | omega | (simp; omega)) _) | (refine below_drewN ?_ _) | (refine Below.drew ?_) | (refine Below.alloc ?_ (by first | exact Nat.le_refl _ | (simp; done) | omega | (simp; omega)) _) | (refine then_ ?_ (by with_reducible assumption)) | assumption | (refine then_ ?_ (by assumption))))
    have BA : BoxT V3 w2.heap.size mir (0, 0) loss (.slice B2' n d2) := by rw [hV3]; exact ⟨by simp [go_sem], by simp [go_sem], by simp [go_sem], by simp [go_sem]⟩
    rw [← hV3]
    have BM := BM.keep bV3
    have fM := frB fM bV3 lM
    have O5 := Lib.hid (owns_below O4.out bV3)
    have rM := rM.step bV3
    have OA3 := Lib.hid (owns_below oa2 bV3)
    have B4 := then_ B3 bV3
    have lMA : w1.heap.size < w2.heap.size := lM
    clear hV3 bV3 oa2 B3 O4 m0 m1 m2 m3
    (with_reducible refine (KS.out _ rM).mono ?_)
    rintro e w3 ⟨⟨B3', d3, rfl⟩, hb3⟩
    have fM := frB fM hb3 BM.lt
    have BM := BM.keep hb3
    have BA := BA.keep hb3
    have O6 := Lib.hid (owns_below O5.out hb3)
    have rM := rM.step hb3
    have OA := Lib.hid (owns_below OA3.out hb3)
    have B5 := then_ B4 hb3
    have lM := BM.lt
    have lA := BA.lt
    obtain ⟨m0, m1, m2, m3⟩ := id BM
    dsimp only at m1
    have fM2 := fM 2
    simp only [tumV]
    have hbn : (ok != ok) = false := by cases ok <;> rfl
    clear hb3 B4 O5 KS OA3
    go_upto_region 10 with fail
    obtain ⟨Z, hZ⟩ : ∃ V, V = w3.setCell ⟨w1.heap.size, 2, none⟩ (.float .f32 0) := ⟨_, rfl⟩
    obtain ⟨V4, hV4⟩ : ∃ V, V = Z.alloc (Obj.cells #[.int .i64 mir, .complex .f32 0 0, .float .f32 loss, .slice B3' n d3] 37) := ⟨_, rfl⟩
    have bV4 : Below Z.heap.size Z V4 := by rw [hV4]; (repeat (first | with_reducible assumption | exact Below.refl _ _ | (refine Below.setCell ?_ (by first | exact Nat.le_refl _ | (simp; done) | omega | (simp; omega)) _) | (refine below_drewN ?_ _) | (refine Below.drew ?_) | (refine Below.alloc ?_ (by first | exact Nat.le_refl _ | (simp; done) | omega | (simp; omega)) _) | (refine then_ ?_ (by with_reducible assumption)) | assumption | (refine then_ ?_ (by assumption))))
    have neA : ¬ w1.heap.size = w2.heap.size := by omega
    have BM : BoxT Z w1.heap.size mir (0, 0) 0 (.slice O n C) := by rw [hZ]; exact ⟨by simp [go_sem, m0], by simp [go_sem, m1], by simp [go_sem, m2], by simp [go_sem, m3]⟩
    have BA : BoxT Z w2.heap.size mir (0, 0) loss (.slice B2' n d2) := by rw [hZ]; exact BA.off neA _
    have O7 : Z.ownsRow w.heap.size 33 2 (.slice O n C) n (flat bdC xs) := by rw [hZ]; exact own_set O6.out OFM.out _ _
    have OA := (show Z.ownsRow V2.heap.size 33 2 (.slice B2' n d2) n (flat bdC xa) by rw [hZ]; exact own_set OA.out OFA.out _ _)
    have B6 : Below w.heap.size w Z := by rw [hZ]; exact B5.setCell hle _
    have B7 := then_ B6 bV4
    have rM : Rd bdC 2 V4 V4.heap.size O n xs := (Rd.of_own bdC_len HN.out.symm O7).step bV4
    have rA : Rd bdC 2 V4 V4.heap.size B2' n xa := (Rd.of_own bdC_len hxal OA).step bV4
    have BM := BM.keep bV4
    have BA := BA.keep bV4
    rw [← hZ, ← hV4]
    have lM := BM.lt
    have lA := BA.lt
    clear hZ hV4 bV4 O6 O7 OA B5 B6 m0 m1 m2 m3 fM2 fM OFM OFA
    obtain ⟨m0, m1, m2, m3⟩ := id BM
    dsimp only at m1
    go_wp2_with fail
    refine (KF.out _ rM).mono ?_
    rintro e w4 ⟨B4', d4, rfl, r4, hb4⟩
    have LF := Lib.hid (lost HT.out.2 N)
    obtain ⟨xf, hxf⟩ : ∃ xf, xf = runB mir (0, 0) 0 xs N := ⟨_, rfl⟩
    obtain ⟨is, his⟩ : ∃ is, is = runS mir (0, 0) 0 xs N := ⟨_, rfl⟩
    rw [← hxf] at r4 LF
    rw [← his] at LF ⊢
    have BM := BM.keep hb4
    have BA := BA.keep hb4
    have rM := rM.step hb4
    have rA := rA.step hb4
    have B8 := then_ B7 hb4
    simp only [tumV]
    clear hxf his hb4 B7 KF m0 m1 m2 m3
    have lM := BM.lt
    have lA := BA.lt
    go_upto_region 11 with fail
    obtain ⟨V5, hV5⟩ : ∃ V, V = w4.alloc (Obj.cells #[.int .i64 mir, .complex .f32 0 0, .float .f32 0, .slice B4' n d4] 37) := ⟨_, rfl⟩
    have bV5 : Below w4.heap.size w4 V5 := by rw [hV5]; (repeat (first | with_reducible assumption | exact Below.refl _ _ | (refine Below.setCell ?_ (by first | exact Nat.le_refl _ | (simp; done) | omega | (simp; omega)) _) | (refine below_drewN ?_ _) | (refine Below.drew ?_) | (refine Below.alloc ?_ (by first | exact Nat.le_refl _ | (simp; done) | omega | (simp; omega)) _) | (refine then_ ?_ (by with_reducible assumption)) | assumption | (refine then_ ?_ (by assumption))))
    have BF : BoxT V5 w4.heap.size mir (0, 0) 0 (.slice B4' n d4) := by rw [hV5]; exact ⟨by simp [go_sem], by simp [go_sem], by simp [go_sem], by simp [go_sem]⟩
    have BM := Lib.hid (BM.keep bV5)
    have BA := Lib.hid (BA.keep bV5)
    have BF := Lib.hid BF
    have rM := rM.step bV5
    have rA := rA.step bV5
    have rF := r4.step bV5
    have B9 := Lib.hid (then_ B8 bV5)
    rw [← hV5]
    clear hV5 bV5 r4 B8 lM lA
    go_wp2_with fail
    go_loopw [11] (fun i wr => ∃ k : Nat, k ≤ n ∧ i = .int .i64 k ∧ Below V5.heap.size V5 wr) (fun i _ => n - (intOf i).toNat)
    case atStart => exact ⟨0, Nat.zero_le _, rfl, Below.refl _ _⟩
    case round =>
      obtain ⟨k, hk, rfl, hw⟩ := hrel
      obtain ⟨m0, m1, m2, m3⟩ := BM.out.keep hw
      obtain ⟨a0, a1, a2, a3⟩ := BA.out.keep hw
      obtain ⟨g0, g1, g2, g3⟩ := BF.out.keep hw
      have lM := World.block_lt_of_cell? _ _ m0
      have lA := World.block_lt_of_cell? _ _ a0
      have lF := World.block_lt_of_cell? _ _ g0
      dsimp only at lM lA lF m1 a1 g1
      by_cases hlt : k < n
      · have hki : (k : Int) < (n : Int) := by omega
        have hk0 : (0 : Int) ≤ (k : Int) := by omega
        obtain ⟨bm, om, am, vm, rfl, hbm, hxm, xm0, xm1⟩ := (rM.step hw).bd hlt
        obtain ⟨ba, oa, aa, va, rfl, hba, hxa, xa0, xa1⟩ := (rA.step hw).bd hlt
        obtain ⟨bf, of_, af, vf, rfl, hbf, hxf, xf0, xf1⟩ := (rF.step hw).bd hlt
        have FA := fun h : ok = true => LO.out h k (aa, va) (am, vm) hxa hxm
        have FF := fun h : is = true => LF.out h k (af, vf) (am, vm) hxf hxm
        dsimp only at FA FF
        obtain ⟨sm, hsm⟩ : ∃ s, s = spanB vm := ⟨_, rfl⟩
        obtain ⟨sa, hsa⟩ : ∃ s, s = spanB va := ⟨_, rfl⟩
        obtain ⟨sf, hsf⟩ : ∃ s, s = spanB vf := ⟨_, rfl⟩
        have km := fun w h => (span_any vm w h).mono (fun _ _ k => And.intro k.1 k.2.symm)
        have ka := fun w h => (span_any va w h).mono (fun _ _ k => And.intro k.1 k.2.symm)
        have kf := fun w h => (span_any vf w h).mono (fun _ _ k => And.intro k.1 k.2.symm)
        rw [← hsm] at km FA FF
        rw [← hsa] at ka FA
        rw [← hsf] at kf FF
        have KM := Lib.hid km
        have KA := Lib.hid ka
        have KFF := Lib.hid kf
        clear hxa hxf km ka kf hsm hsa hsf
        have okm : finP vm := (ok_fin (List.all_eq_true.1 (tumB_parts.1 HT.out.1).2.2.2.2 (am, vm) (List.mem_of_getElem? hxm))).2
        have KM2 := Lib.hid (fun w => KM.out w okm)
        clear okm hxm
        cases ok <;> cases is
        · clear FA FF
          go_wp2_with fail
          go_quiet (fail)
          go_wp2
          go_roundw
          case rel => exact ⟨k + 1, by omega, by go_num, below_drewN hw _⟩
          case measure => simp [intOf]; omega
        · obtain ⟨f1, f2, _, f4⟩ := FF rfl
          have f4 := f4 trivial
          have g0 : (FloatKind.f32.format.order sf sm == some .eq) = true := f4
          have g1 : (FloatKind.f32.format.order sf sm != some .eq) = false := by unfold bne; rw [g0]; rfl
          clear g0
          have KF2 := Lib.hid (fun w => KFF.out w f1)
          clear FA FF f1 f2 f4
          go_wp2_with fail
          go_quiet (first
            | (go_at_call 14; with_reducible exact Calls.quiet_of_same (KM2.out _))
            | (go_at_call 14; with_reducible exact Calls.quiet_of_same (KF2.out _)))
          go_wp2
          go_roundw
          case rel => exact ⟨k + 1, by omega, by go_num, below_drewN hw _⟩
          case measure => simp [intOf]; omega
        · obtain ⟨f1, f2, f3, _⟩ := FA rfl
          have g1 : (FloatKind.f32.format.order sa sm == some .gt) = false := f3
          have KA2 := Lib.hid (fun w => KA.out w f1)
          clear FA FF f1 f2 f3
          go_wp2_with fail
          go_quiet (first
            | (go_at_call 14; with_reducible exact Calls.quiet_of_same (KM2.out _))
            | (go_at_call 14; with_reducible exact Calls.quiet_of_same (KA2.out _)))
          go_wp2
          go_roundw
          case rel => exact ⟨k + 1, by omega, by go_num, below_drewN hw _⟩
          case measure => simp [intOf]; omega
        · obtain ⟨f1, f2, f3, _⟩ := FA rfl
          have g1 : (FloatKind.f32.format.order sa sm == some .gt) = false := f3
          have KA2 := Lib.hid (fun w => KA.out w f1)
          clear FA f1 f2 f3
          obtain ⟨f1, f2, _, f4⟩ := FF rfl
          have f4 := f4 trivial
          have g0 : (FloatKind.f32.format.order sf sm == some .eq) = true := f4
          have g2 : (FloatKind.f32.format.order sf sm != some .eq) = false := by unfold bne; rw [g0]; rfl
          clear g0
          have KF2 := Lib.hid (fun w => KFF.out w f1)
          clear FF f1 f2 f4
          go_wp2_with fail
          go_quiet (first
            | (go_at_call 14; with_reducible exact Calls.quiet_of_same (KM2.out _))
            | (go_at_call 14; with_reducible exact Calls.quiet_of_same (KA2.out _))
            | (go_at_call 14; with_reducible exact Calls.quiet_of_same (KF2.out _)))
          go_wp2
          go_roundw
          case rel => exact ⟨k + 1, by omega, by go_num, below_drewN hw _⟩
          case measure => simp [intOf]; omega
      · obtain rfl : k = n := by omega
        have KE := Lib.hid (fun w h => energy_any mir (0, 0) loss B2' k d2 xa w TA.out hxl h)
        have rA := rA.step hw
        have BW := then_ B9.out hw
        go_wp2_with fail
        refine (KE.out _ rA).mono ?_
        rintro e w9 ⟨⟨x, hx, rfl⟩, hb9⟩
        have g : (FloatKind.f32.format.order x 0 == some .gt || FloatKind.f32.format.order x 0 == some .eq) = true := small_ge hx
        go_wp2
        go_ret
        exact ⟨rfl, then_ BW hb9⟩

namespace fnLost
theorem own : ownKnob Try.prog.godebug = none := by kernel_rfl
theorem laidOut : laidOutB Try.prog = true := by kernel_rfl
set_option maxRecDepth 100000 in
theorem lifted (os : Os) (started : os.Started) (H : Type) (enc : TypeId × Value → H) :
    ReturnsInHanded {} Try.checked os 6 .any (Rows.fnLostSpec.pre6 enc Try.prog Try.f6 Rows.fnLostRow.domain false) (Rows.fnLostSpec.post enc Try.prog Try.f6 false true false false) := by
  refine returnsInHanded_of_change (C := Try.checked) own started (by kernel_rfl) Try.func6
    (ChangeSpec.witness6 (enc := enc) (C := Try.checked) false ⟨#[], #[.slice none 0 0], []⟩ 8 (by kernel_rfl) (by kernel_rfl) (by kernel_rfl) (by kernel_rfl)) ?_
  intro W base args ds gs before hval0 hW hcnd _
  have hval : ∀ (j : Nat) t v, Try.f6.params[j]? = some t → args[j]? = some v → Value.okWide Try.prog W .any base t v := hval0
  have hW' := hW
  obtain ⟨p, q, hA0, hV, rfl, hfz, hnd⟩ := hW
  have hA : DataW.TrodAll enc Try.prog W 0 (fun _ => true) true Try.f6.params.toList args.toList ds p := hA0
  rw [Try.params6] at hA hval
  obtain ⟨v0, vs0, d0, ds0, p0, q0, hargs, rfl, rfl, h0, r0⟩ := trodAll_cons hA
  obtain ⟨rfl, rfl, rfl⟩ := trodAll_nil r0
  obtain rfl : args = #[v0] := by cases args; simp_all
  obtain ⟨rfl, rfl⟩ := trodVars_none hV
  have k0 := h0
  have lt0 : ∀ x ∈ p0, x.block < W.heap.size := by obtain ⟨m, hm⟩ := k0; exact DataW.trod_lt m _ _ _ hm
  obtain ⟨A, n, c, bs, rfl, hn, ha, hbs⟩ := open_bytes Try.underlying22 Try.underlying5 (by kernel_rfl) (hval 0 22 v0 rfl rfl) h0
  clear hA0 hval0
  refine (lawLost A n c bs W ha hbs).mono fun e W' ⟨he, bel⟩ => ?_
  subst he
  exact ⟨_, rfl, _, _, _, [], _, [], hW', trodAll_mk1 (shut_bool Try.underlying4 _), (trodAll_cons_mk (Below.trod laidOut (by kernel_rfl) (of_decide_eq_true (by kernel_rfl)) k0 bel lt0) trodAll_mk0), rfl, bel.frame _, fun h => by cases h⟩

theorem and_mk {a b : Bool} (h : a = true) (k : b = true) : (a && b) = true := by rw [h, k]; rfl
set_option maxHeartbeats 40000000 in
theorem facts : joinedFacts Try.pinned.checked.prog 6 Try.f6 Rows.fnLostSpec Rows.fnLostRow = true := by
  unfold joinedFacts
  repeat (with_reducible refine and_mk ?_ ?_)
  all_goals (as_aux_lemma => kernel_rfl)
theorem named_ : Try.pinned.checked.prog.funcNamed Rows.fnLostRow.func = some 6 := by kernel_rfl
theorem over : Rows.fnLostRow.holds Try.pinned (OpenSpec.ofChange Rows.fnLostSpec) :=
  OpenClaim.holds_of_wide 6 Try.f6 rfl rfl rfl rfl rfl rfl rfl ⟨rfl, rfl, rfl, rfl, rfl⟩ rfl rfl rfl rfl rfl named_ Try.func6 facts
    (of_decide_eq_true (by kernel_rfl)) (by unfold Func.isWrapper; first | (rw [if_pos (by decide +kernel)]; kernel_rfl) | (rw [if_neg (by decide +kernel)]; exact ⟨rfl, rfl⟩))
    (fun os started H enc _ => lifted os started H enc)

theorem proved : Rows.FnLostSaid := over
end fnLost
end Go.Proofs.Ytdjbpbolliphkaa
