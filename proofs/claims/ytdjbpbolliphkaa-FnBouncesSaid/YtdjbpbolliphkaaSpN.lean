
/- BouncesOf: whether the specification's is possible. -/
import Derived.Test.YtdjbpbolliphkaaSpR
import Derived.Test.YtdjbpbolliphkaaDrawH
import Derived.Deep.CutRange
namespace Go.Proofs.Ytdjbpbolliphkaa
open Go.RowKit
attribute [local go_sem] run_store_float run_store_complex

def CountPost (ok : Bool) (e : Ending) : Prop := ∃ s, e = .returned (.tuple #[s, .bool ok])
theorem runS_go {mir : Int} {gr : Pt} {loss : Nat} {bs xs : List Bd} {cs : List Int} {k N : Nat} (hs : runS mir gr loss bs N = true) (h : runUp mir gr loss bs k = some (xs, cs)) (hk : k < N) : allGo gr xs = true := by
  cases hg : allGo gr xs
  · have := runS_no (runUp_no h hg) (show k + 1 ≤ N by omega)
    rw [this] at hs; cases hs
  · rfl

def Away (n : Nat) (A : Option Addr) (g : Nat) : Prop := 0 < n → ∀ b off, A = some ⟨b, off, none⟩ → ¬ b = g
theorem rd_set {w : World} {B : Nat} {A : Option Addr} {n g j : Nat} {xs : List Bd} {u : Value} (h : Rd bdC 2 w B A n xs) (ha : Away n A g) : Rd bdC 2 (w.setCell ⟨g, j, none⟩ u) B A n xs :=
  ⟨h.1, fun hn => by
    obtain ⟨b, off, e, hb, hc⟩ := h.2 hn
    have hne := ha hn b off e
    exact ⟨b, off, e, hb, fun k x hx j' u' hu => (World.cell?_setCell_other w _ _ _ (fun e => hne (by injection e with e1; exact e1.symm))).trans (hc k x hx j' u' hu)⟩⟩
theorem BoxT.offN {w : World} {b : Nat} {mir : Int} {gr : Pt} {loss : Nat} {s : Value} (h : BoxT w b mir gr loss s) {g j : Nat} (hp : ¬ g = b) (v : Value) : BoxT (w.setCell ⟨g, j, none⟩ v) b mir gr loss s := by
  have k := fun i => World.cell?_setCell_other w ⟨g, j, none⟩ ⟨b, i, none⟩ v (fun e => hp (by injection e))
  exact ⟨(k 0).trans h.1, (k 1).trans h.2.1, (k 2).trans h.2.2.1, (k 3).trans h.2.2.2⟩

set_option maxRecDepth 100000 in
set_option maxHeartbeats 8000000 in
theorem specBounces_any (mir : Int) (gr : Pt) (loss : Nat) (A : Option Addr) (n c : Nat) (bs : List Bd) (N : Nat) (w : World) (hn : n ≤ 8) (hN : N ≤ 64) (ht : tumB mir gr loss bs = true) (ha : Rd bdC 2 w w.heap.size A n bs) :
    Calls Try.prog 23 #[.agg #[.int .i64 mir, .complex .f32 gr.1 gr.2, .float .f32 loss, .slice A n c], .int .i64 N] w fun e w' => CountPost (runS mir gr loss bs N) e ∧ Below w.heap.size w w' := by
  have HT := Lib.hid ht
  obtain ⟨i0, hi, hz0, hz1, hz2⟩ := info_parts infoIntR
  have hmk := fun wx => run_make (P := Try.prog) wx 52 3 i0 _ Try.underlying52 hi hz0 .i64 .i64 n n (by omega) (Int.le_refl _) (by rw [hz2]; omega) (by omega)
  simp only [Int.toNat_natCast, hz1, Nat.mul_one] at hmk
  have hcl : (Value.int .i64 0).cells = #[.int .i64 0] := rfl
  rw [hcl] at hmk
  clear ht
  go_enter Try.func23, Try.ntmps23
  go_wp2_with fail
  obtain ⟨W1, hW1⟩ : ∃ W, W = w.alloc (Obj.cells #[.int .i64 mir, .complex .f32 gr.1 gr.2, .float .f32 loss, .slice A n c] 37) := ⟨_, rfl⟩
  obtain ⟨W, hWe⟩ : ∃ W, W = W1.alloc (Obj.cells (madeCells #[.int .i64 0] n) 3) := ⟨_, rfl⟩
  have bW1 : Below w.heap.size w W1 := by rw [hW1]; (repeat (first | with_reducible assumption | exact Below.refl _ _ | (refine Below.setCell ?_ (by first | exact Nat.le_refl _ | (simp; done) | omega | (simp; omega)) _) | (refine below_drewN ?_ _) | (refine Below.drew ?_) | (refine Below.alloc ?_ (by first | exact Nat.le_refl _ | (simp; done) | omega | (simp; omega)) _) | (refine then_ ?_ (by with_reducible assumption)) | assumption | (refine then_ ?_ (by assumption))))
  have zW1 : W1.heap.size = w.heap.size + 1 := by rw [hW1]; simp
  have bW : Below W1.heap.size W1 W := by rw [hWe]; (repeat (first | with_reducible assumption | exact Below.refl _ _ | (refine Below.setCell ?_ (by first | exact Nat.le_refl _ | (simp; done) | omega | (simp; omega)) _) | (refine below_drewN ?_ _) | (refine Below.drew ?_) | (refine Below.alloc ?_ (by first | exact Nat.le_refl _ | (simp; done) | omega | (simp; omega)) _) | (refine then_ ?_ (by with_reducible assumption)) | assumption | (refine then_ ?_ (by assumption))))
  have hW := then_ bW1 bW
  have CB1 : BoxT W1 w.heap.size mir gr loss (.slice A n c) := by rw [hW1]; exact boxT_new _ _ _ _ _ _
  have CB := CB1.keep bW
  have OZ := own_zeros (base := W1.heap.size) (n := n) W1 (Nat.le_refl _) (by unfold maxLen; omega)
  rw [← hWe, zW1] at OZ
  have lW0 : w.heap.size < W.heap.size := CB.lt
  have zW : W.heap.size = w.heap.size + 2 := by rw [hWe]; simp; omega
  rw [← hW1, ← hWe]
  have ZW := Lib.hid zW
  have AA0 : Away n A (w.heap.size + 1) := fun h b off e => by
    obtain ⟨b', off', e', hb', _⟩ := ha.2 h
    rw [e] at e'
    injection e' with e'
    injection e' with e1
    omega
  clear hW1 hWe zW1 bW1 bW CB1 zW hmk hcl
  refine (specRun_any mir gr loss A n c bs N _ hn hN HT.out (ha.step hW)).mono ?_
  rintro e w2 ⟨⟨B2, d2, rfl⟩, hb2⟩
  have CB := CB.keep hb2
  have OZ := Lib.hid (owns_below OZ hb2)
  have hW2 := then_ hW hb2
  have z2 := hb2.size
  have lC := CB.lt
  obtain ⟨c0, c1, c2, c3⟩ := id CB
  obtain ⟨ok, hok⟩ : ∃ ok, ok = runS mir gr loss bs N := ⟨_, rfl⟩
  rw [← hok]
  have HOK := Lib.hid hok
  simp only [tumV]
  clear hok hb2 hW
  cases ok
  · clear c0 c1 c2 c3 OZ
    go_wp2
    go_ret2
    exact ⟨⟨.slice (some ⟨w2.heap.size + 1, 0, none⟩) 0 0, by first | rfl | (rw [← HOK.out]; rfl)⟩, (hW2.alloc hW2.size _).alloc (by simp; have := hW2.size; omega) _⟩
  · go_wp2_with fail
    obtain ⟨V0, hV0⟩ : ∃ V, V = w2.alloc (Obj.cells #[.int .i64 mir, .complex .f32 gr.1 gr.2, .float .f32 loss, .slice B2 n d2] 37) := ⟨_, rfl⟩
    obtain ⟨V, hVe⟩ : ∃ V, V = V0.alloc (Obj.cells #[.int .i64 mir, .complex .f32 gr.1 gr.2, .float .f32 loss, .slice A n c] 37) := ⟨_, rfl⟩
    have bV0 : Below w2.heap.size w2 V0 := by rw [hV0]; (repeat (first | with_reducible assumption | exact Below.refl _ _ | (refine Below.setCell ?_ (by first | exact Nat.le_refl _ | (simp; done) | omega | (simp; omega)) _) | (refine below_drewN ?_ _) | (refine Below.drew ?_) | (refine Below.alloc ?_ (by first | exact Nat.le_refl _ | (simp; done) | omega | (simp; omega)) _) | (refine then_ ?_ (by with_reducible assumption)) | assumption | (refine then_ ?_ (by assumption))))
    have zV0 : V0.heap.size = w2.heap.size + 1 := by rw [hV0]; simp
    have bV : Below V0.heap.size V0 V := by rw [hVe]; (repeat (first | with_reducible assumption | exact Below.refl _ _ | (refine Below.setCell ?_ (by first | exact Nat.le_refl _ | (simp; done) | omega | (simp; omega)) _) | (refine below_drewN ?_ _) | (refine Below.drew ?_) | (refine Below.alloc ?_ (by first | exact Nat.le_refl _ | (simp; done) | omega | (simp; omega)) _) | (refine then_ ?_ (by with_reducible assumption)) | assumption | (refine then_ ?_ (by assumption))))
    have XB : BoxT V (w2.heap.size + 1) mir gr loss (.slice A n c) := by rw [hVe, ← zV0]; exact boxT_new _ _ _ _ _ _
    have xf : ∀ j, V.frozen? ⟨w2.heap.size + 1, j, none⟩ = false := by intro j; rw [hVe, ← zV0]; simp [go_sem]
    have bV2 := then_ bV0 bV
    have zV : V.heap.size = w2.heap.size + 2 := by rw [hVe]; simp; omega
    have hV := then_ hW2 bV2
    have OZ := Lib.hid (owns_below OZ.out bV2)
    have rA := ha.step hV
    rw [← hV0, ← hVe]
    have AA1 : Away n A (w2.heap.size + 1) := fun h b off e => by
      obtain ⟨b', off', e', hb', _⟩ := ha.2 h
      rw [e] at e'
      injection e' with e'
      injection e' with e1
      have := hW2.size
      omega
    clear hV0 hVe bV0 zV0 bV bV2 c0 c1 c2 c3 CB
    have ZV := Lib.hid zV
    have ll0 : w.heap.size ≤ w.heap.size + 1 := by omega
    have ll1 : w.heap.size ≤ w2.heap.size + 1 := by have := hW2.size; omega
    have lz2 : w.heap.size + 1 < w2.heap.size := by have := ZW.out; omega
    have nez : ¬ w.heap.size + 1 = w2.heap.size + 1 := by omega
    have nez' : ¬ w2.heap.size + 1 = w.heap.size + 1 := by omega
    have ofZ : Off (.slice (some ⟨w.heap.size + 1, 0, none⟩) n n) (w2.heap.size + 1) := by unfold Off Value.ownBlock; simp; omega
    clear zV
    go_loopw [10] (fun i wr => ∃ (k : Nat) (xs : List Bd) (cs : List Int) (O : Option Addr) (D : Nat) (zs : List Int), k ≤ N ∧ i = .int .i64 k ∧ runUp mir gr loss bs k = some (xs, cs) ∧ Rd bdC 2 wr wr.heap.size O n xs ∧ Away n O (w.heap.size + 1) ∧ Away n O (w2.heap.size + 1) ∧ BoxT wr (w2.heap.size + 1) mir gr loss (.slice O n D) ∧ (∀ j, wr.frozen? ⟨w2.heap.size + 1, j, none⟩ = false) ∧ zs.length = n ∧ wr.ownsRow (w.heap.size + 1) 3 1 (.slice (some ⟨w.heap.size + 1, 0, none⟩) n n) n (flat intC zs) ∧ V.heap.size ≤ wr.heap.size ∧ Below w.heap.size w wr) (fun i _ => N - (intOf i).toNat)
    case atStart => exact ⟨0, bs, _, A, c, _, Nat.zero_le _, rfl, rfl, rA, AA0, AA1, XB, xf, by simp, OZ.out, Nat.le_refl _, hV⟩
    case round =>
      clear XB xf OZ rA AA0 AA1 hV hW2
      obtain ⟨k, xs, cs, O, D, zs, hk, rfl, hru, rX, aw1, aw2, XB, xf, hzl, hoz, hsz, hw⟩ := hrel
      have RU := Lib.hid hru
      have OZ := Lib.hid hoz
      have HZL := Lib.hid hzl
      have AW1 := Lib.hid aw1
      have AW2 := Lib.hid aw2
      have lX := XB.lt
      clear hru hoz hzl aw1 aw2
      by_cases hlt : k < N
      · have hki : (k : Int) < (N : Int) := by omega
        have GO := Lib.hid (runS_go HOK.out.symm RU.out hlt)
        have TX := Lib.hid (runUp_tum HT.out RU.out)
        obtain ⟨x0, x1, x2, x3⟩ := id XB
        obtain ⟨wo, hwo⟩ : ∃ wo, wo = wr.heap.size := ⟨_, rfl⟩
        have HWO := Lib.hid hwo
        have hVo : V.heap.size ≤ wo := by omega
        clear hwo
        go_wp2_with fail
        go_loopw [38] (fun i wx => ∃ (j : Nat) (zs : List Int), j ≤ n ∧ i = .int .i64 j ∧ Rd bdC 2 wx wx.heap.size O n xs ∧ BoxT wx (w2.heap.size + 1) mir gr loss (.slice O n D) ∧ (∀ j, wx.frozen? ⟨w2.heap.size + 1, j, none⟩ = false) ∧ zs.length = n ∧ wx.ownsRow (w.heap.size + 1) 3 1 (.slice (some ⟨w.heap.size + 1, 0, none⟩) n n) n (flat intC zs) ∧ wo ≤ wx.heap.size ∧ Below w.heap.size w wx) (fun i _ => n - (intOf i).toNat)
        case atStart => exact ⟨0, zs, Nat.zero_le _, rfl, rX, XB, xf, HZL.out, OZ.out, by rw [HWO.out]; exact Nat.le_refl _, hw⟩
        case round =>
          clear XB xf OZ rX hw x0 x1 x2 x3 HZL HWO hsz lX
          obtain ⟨j, ys, hj, rfl, rX, XB, xf, hyl, hoz, hsx, hw⟩ := hrel
          have OZ := Lib.hid hoz
          have HYL := Lib.hid hyl
          have lX := XB.lt
          clear hoz hyl
          by_cases hlj : j < n
          · obtain ⟨bb, off, a, v, rfl, hbl, hx, q0, q1⟩ := rX.bd hlj
            have hji : (j : Int) < (n : Int) := by omega
            have hj0 : (0 : Int) ≤ (j : Int) := by omega
            obtain ⟨P1, hP1⟩ : ∃ P, P = plusP v gr := ⟨_, rfl⟩
            obtain ⟨P2, hP2⟩ : ∃ P, P = plusP a P1 := ⟨_, rfl⟩
            obtain ⟨r, hr⟩ : ∃ r, r = foldS mir P2 := ⟨_, rfl⟩
            have k1 := fun w => specPlus_any v gr w
            have k2 := fun w => specPlus_any a P1 w
            have kf := fun w => specFoldPoint_any mir P2 w
            rw [← hP1] at k1
            rw [← hP2] at k2
            rw [← hr] at kf
            obtain ⟨q, ⟨t, f⟩, ob⟩ := r
            simp only [foldV] at kf
            have K1 := Lib.hid k1
            have K2 := Lib.hid k2
            have KF := Lib.hid kf
            have RX := Lib.hid rX
            have XBH := Lib.hid XB
            have XF := Lib.hid xf
            have lz0 : w.heap.size + 1 < wr.heap.size := by omega
            obtain ⟨x0, x1, x2, x3⟩ := id XB
            clear hP1 hP2 hr k1 k2 kf hx rX XB xf
            go_wp2_with fail
            obtain ⟨X, hXe⟩ : ∃ X, X = wr.alloc (Obj.cells #[.complex .f32 a.1 a.2, .complex .f32 v.1 v.2] 33) := ⟨_, rfl⟩
            have hX : Below wr.heap.size wr X := by rw [hXe]; (repeat (first | with_reducible assumption | exact Below.refl _ _ | (refine Below.setCell ?_ (by first | exact Nat.le_refl _ | (simp; done) | omega | (simp; omega)) _) | (refine below_drewN ?_ _) | (refine Below.drew ?_) | (refine Below.alloc ?_ (by first | exact Nat.le_refl _ | (simp; done) | omega | (simp; omega)) _) | (refine then_ ?_ (by with_reducible assumption)) | assumption | (refine then_ ?_ (by assumption))))
            have b0 : X.cell? ⟨wr.heap.size, 0, none⟩ = some (.complex .f32 a.1 a.2) := by rw [hXe]; simp [go_sem]
            have b1 : X.cell? ⟨wr.heap.size, 1, none⟩ = some (.complex .f32 v.1 v.2) := by rw [hXe]; simp [go_sem]
            rw [← hXe]
            have EX := XBH.out.keep hX
            obtain ⟨y0, y1, y2, y3⟩ := id EX
            have lbX := World.block_lt_of_cell? _ _ b0
            have lx3 := EX.lt
            dsimp only at lbX
            clear hXe x0 x1 x2 x3 q0 q1
            go_cut [13, 14, 15] (fun v13 v14 v15 wx => ∃ g8 : Nat, v14 = .pointer (some ⟨g8, 0, none⟩) ∧ X.heap.size ≤ g8 ∧ wx.cell? ⟨g8, 0, none⟩ = some (.int .i64 t) ∧ wx.cell? ⟨g8, 1, none⟩ = some (.bool f) ∧ Below X.heap.size X wx)
            case first =>
              go_region_held3 (fun w' => (∀ b o, b < X.heap.size → w'.cell? ⟨b, o, none⟩ = X.cell? ⟨b, o, none⟩) ∧ Below X.heap.size X w') (first | assumption | exact startS _ | exact startSM _ _ | exact stepS (by assumption) (by assumption) | exact ofBel (by (repeat (first | with_reducible assumption | exact Below.refl _ _ | (refine Below.setCell ?_ (by first | exact Nat.le_refl _ | (simp; done) | omega | (simp; omega)) _) | (refine below_drewN ?_ _) | (refine Below.drew ?_) | (refine Below.alloc ?_ (by first | exact Nat.le_refl _ | (simp; done) | omega | (simp; omega)) _) | (refine then_ ?_ (by with_reducible assumption)) | assumption | (refine then_ ?_ (by assumption)))))) (first | (go_at_call 52; (with_reducible refine (K1.out _).mono ?_); rintro e w4 ⟨rfl, n1, rfl⟩) | (go_at_call 52; (with_reducible refine (K2.out _).mono ?_); rintro e w4 ⟨rfl, n2, rfl⟩) | (go_at_call 51; (with_reducible refine (KF.out _).mono ?_); rintro e w5 ⟨rfl, hb5⟩; have hB5 : Below X.heap.size X w5 := (by (repeat (first | with_reducible assumption | exact Below.refl _ _ | (refine Below.setCell ?_ (by first | exact Nat.le_refl _ | (simp; done) | omega | (simp; omega)) _) | (refine below_drewN ?_ _) | (refine Below.drew ?_) | (refine Below.alloc ?_ (by first | exact Nat.le_refl _ | (simp; done) | omega | (simp; omega)) _) | (refine then_ ?_ (by with_reducible assumption)) | assumption | (refine then_ ?_ (by assumption))))); have z5 := hB5.size; try (refine keepCF_then (p := ⟨X.heap.size, 0, none⟩) (v := .int .i64 0) hb5 ?_ ?_ ?_; (focus (show (X.alloc _).cell? _ = _; simp [go_sem]; done)); (focus (show (X.alloc _).frozen? _ = _; simp [go_sem]; done)); intro kc0 kf0 lk0; dsimp only at lk0; refine keepCF_then (p := ⟨X.heap.size, 1, none⟩) (v := .bool false) hb5 ?_ ?_ ?_; (focus (show (X.alloc _).cell? _ = _; simp [go_sem]; done)); (focus (show (X.alloc _).frozen? _ = _; simp [go_sem]; done)); intro kc1 kf1 lk1)))
              all_goals
                go_wp2_with fail
                go_meet
                first
                  | exact ⟨w5.heap.size, rfl, z5, by simp [go_sem], by simp [go_sem], hB5.alloc z5 _⟩
                  | exact ⟨X.heap.size, rfl, Nat.le_refl _, by simp [go_sem, kc0], by simp [go_sem, kc1], (hB5.setCell (Nat.le_refl _) _).setCell (Nat.le_refl _) _⟩
            case rest =>
              obtain ⟨g8, rfl, hg8, t0, t1, hwc⟩ := hcut
              have hXc := then_ hX hwc
              have zc := hXc.size
              have rX := RX.out.step hXc
              have XB := XBH.out.keep hXc
              have xf := frB XF.out hXc lX
              have OZ := Lib.hid (owns_below OZ.out hXc)
              have hwc2 := then_ hw hXc
              have lg8 := World.block_lt_of_cell? _ _ t0
              dsimp only at lg8
              have kn := fun wx => run_neq_symT t 0 f false wx
              obtain ⟨z, hz⟩ : ∃ z, z = ((t, f) == ((0 : Int), false)) := ⟨_, rfl⟩
              rw [← hz] at kn
              have hso : wo ≤ wc.heap.size := by omega
              have lzc : w.heap.size + 1 < wc.heap.size := by omega
              clear hz hX hwc EX b0 b1 y0 y1 y2 y3 hXc
              cases z
              · obtain ⟨b', o', cv, e', hb', hcx, hcc⟩ := (Rd.of_own intC_len HYL.out OZ.out).at_ hlj
                injection e' with e'
                injection e' with e1 e2
                subst e1 e2
                have hc0 := hcc 0 _ rfl
                simp only [Nat.mul_one, Nat.add_zero, Nat.zero_add] at hc0
                have fz := OZ.out.frozenAt j
                clear hcc hb' hcx
                go_wp2
                go_roundw
                case rel =>
                  refine ⟨j + 1, ys.set j (wrap64 (cv + 1)), by omega, by go_num, rd_set (by simpa using rX) AW1.out, XB.offN nez _, frS xf _ _, by rw [List.length_set]; exact HYL.out, ?_, by simp; omega, hwc2.setCell ll0 _⟩
                  rw [flat_setI (by rw [HYL.out]; exact hlj)]
                  exact (OZ.out.stored j _).1
                case measure => simp [intOf]; omega
              · go_wp2
                go_roundw
                case rel => exact ⟨j + 1, ys, by omega, by go_num, rX, XB, xf, HYL.out, OZ.out, hso, hwc2⟩
                case measure => simp [intOf]; omega
          · obtain rfl : j = n := by omega
            obtain ⟨x0, x1, x2, x3⟩ := id XB
            go_wp2_with fail
            refine (specStep_any mir gr loss O j D xs _ hn TX.out rX).mono ?_
            rintro e w5 ⟨⟨hy, _⟩, hb5⟩
            obtain ⟨B5, d5, rfl, ho5⟩ := hy GO.out
            have RY := Lib.hid (runUp_yes RU.out GO.out)
            have hlen : (goL mir gr loss xs).length = j := by unfold goL; rw [List.length_map]; exact rX.1
            have O5 := Lib.hid ho5
            have OZ := Lib.hid (owns_below OZ.out hb5)
            have xf := frB xf hb5 lX
            have XB := XB.keep hb5
            have lX5 := XB.lt
            have hw5 := then_ hw hb5
            have z5 := hb5.size
            obtain ⟨x0, x1, x2, x3⟩ := id XB
            have f0 := xf 0
            have f1 := xf 1
            have f2 := xf 2
            have f3 := xf 3
            have OF5 := Lib.hid (off_lt ho5 lX)
            have aw := Lib.hid (show ∀ g : Nat, g < wr.heap.size → Away j B5 g from fun g hg h b off e => by
              obtain ⟨g', e', _, _⟩ := owns_slice_at O5.out h
              subst e'
              injection e with e
              injection e with e1
              have := (O5.out.lt g' rfl).1
              omega)
            simp only [tumV]
            clear hy ho5 hb5 rX
            go_wp2
            go_roundw
            case rel =>
              have E6 : BoxT ((((w5.setCell ⟨w2.heap.size + 1, 0, none⟩ (.int .i64 mir)).setCell ⟨w2.heap.size + 1, 1, none⟩ (.complex .f32 gr.1 gr.2)).setCell ⟨w2.heap.size + 1, 2, none⟩ (.float .f32 loss)).setCell ⟨w2.heap.size + 1, 3, none⟩ (.slice B5 j d5)) (w2.heap.size + 1) mir gr loss (.slice B5 j d5) :=
                ⟨by simp [go_sem, x0], by simp [go_sem, x1], by simp [go_sem, x2], by simp [go_sem, x3]⟩
              refine ⟨k + 1, _, _, B5, d5, ys, by omega, by go_num, RY.out, ?_, aw.out _ (by omega), aw.out _ (by omega), E6, frS (frS (frS (frS xf _ _) _ _) _ _) _ _, HYL.out, ?_, by simp; omega, (((hw5.setCell ll1 _).setCell ll1 _).setCell ll1 _).setCell ll1 _⟩
              · exact Rd.of_own bdC_len hlen (own_set (own_set (own_set (own_set O5.out OF5.out _ _) OF5.out _ _) OF5.out _ _) OF5.out _ _)
              · exact own_set (own_set (own_set (own_set OZ.out ofZ _ _) ofZ _ _) ofZ _ _) ofZ _ _
            case measure => simp [intOf]; omega
      · obtain rfl : k = N := by omega
        go_wp2
        go_ret2
        exact ⟨⟨.slice (some ⟨w.heap.size + 1, 0, none⟩) n n, by first | rfl | (rw [← HOK.out]; rfl)⟩, hw⟩
end Go.Proofs.Ytdjbpbolliphkaa
