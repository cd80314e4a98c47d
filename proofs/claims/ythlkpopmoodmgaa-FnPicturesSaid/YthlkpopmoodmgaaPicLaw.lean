
/- For every input: the symmetries of a picture are a group; acting is done one after the other (FnPictures answers true). No condition. -/
import Derived.Test.YthlkpopmoodmgaaHas
import Derived.Test.YthlkpopmoodmgaaOpen
import Derived.ProofKit
import Derived.ChangeOld
import Derived.Below
import Derived.Deep.RegionHeld3
import Derived.Laws.Cover3
namespace Go.Proofs.Ythlkpopmoodmgaa
open Go.ChangeShapes Go.WideShapes Go.ChangeAt Go.RowKit

set_option maxRecDepth 100000 in
set_option maxHeartbeats 8000000 in
theorem lawPictures (A : Option Addr) (m c : Nat) (bs : List Int) (w : World) (hr : Rd byteC 1 w w.heap.size A m bs) (hb : ∀ x ∈ bs, 0 ≤ x ∧ x ≤ 255) :
    Calls Try.prog 10 #[.slice A m c] w fun e w' => e = .returned (.bool true) ∧ Below w.heap.size w w' := by
  by_cases hbig : (4096 : Int) < m
  · have hd : decide ((4096 : Int) < m) = true := by simpa using hbig
    go_enter Try.func10, Try.ntmps10
    go_wp2_with (go_at_call 39; refine (bigS_any _ _ _ _).mono ?_; rintro e w' ⟨rfl, rfl⟩; rw [hd])
    go_ret
    exact ⟨rfl, by (repeat (first | with_reducible assumption | exact Below.refl _ _ | (refine Below.setCell ?_ (by first | exact Nat.le_refl _ | (simp; done) | omega | (simp; omega)) _) | (refine below_drewN ?_ _) | (refine Below.drew ?_) | (refine Below.alloc ?_ (by first | exact Nat.le_refl _ | (simp; done) | omega | (simp; omega)) _) | (refine then_ ?_ (by with_reducible assumption)) | assumption | (refine then_ ?_ (by assumption))))⟩
  · have hd : decide ((4096 : Int) < m) = false := by simpa using hbig
    go_enter Try.func10, Try.ntmps10
    go_wp2_with fail
    refine (bigS_any _ _ _ _).mono ?_
    rintro e w' ⟨rfl, rfl⟩
    rw [hd]
    go_wp2_with fail
    refine (drawPicture_any A m c bs _ (by omega) (hr.step (by (repeat (first | with_reducible assumption | exact Below.refl _ _ | (refine Below.setCell ?_ (by first | exact Nat.le_refl _ | (simp; done) | omega | (simp; omega)) _) | (refine below_drewN ?_ _) | (refine Below.drew ?_) | (refine Below.alloc ?_ (by first | exact Nat.le_refl _ | (simp; done) | omega | (simp; omega)) _) | (refine then_ ?_ (by with_reducible assumption)) | assumption | (refine then_ ?_ (by assumption)))))) hb).mono ?_
    rintro e w1 ⟨q, xs, O, C, hq5, hp, rfl, hr1, hb1⟩
    have HP := Lib.hid hp
    have hn := pic_len hp
    have hW1 : Below w.heap.size w w1 := by (repeat (first | with_reducible assumption | exact Below.refl _ _ | (refine Below.setCell ?_ (by first | exact Nat.le_refl _ | (simp; done) | omega | (simp; omega)) _) | (refine below_drewN ?_ _) | (refine Below.drew ?_) | (refine Below.alloc ?_ (by first | exact Nat.le_refl _ | (simp; done) | omega | (simp; omega)) _) | (refine then_ ?_ (by with_reducible assumption)) | assumption | (refine then_ ?_ (by assumption))))
    clear hb1
    go_wp2_with fail
    obtain ⟨V1, hVe⟩ : ∃ V, V = w1.alloc (Obj.cells #[.int .i64 ((q : Int) + 1), .slice O xs.length C] 29) := ⟨_, rfl⟩
    have hV1 : Below w1.heap.size w1 V1 := by rw [hVe]; (repeat (first | with_reducible assumption | exact Below.refl _ _ | (refine Below.setCell ?_ (by first | exact Nat.le_refl _ | (simp; done) | omega | (simp; omega)) _) | (refine below_drewN ?_ _) | (refine Below.drew ?_) | (refine Below.alloc ?_ (by first | exact Nat.le_refl _ | (simp; done) | omega | (simp; omega)) _) | (refine then_ ?_ (by with_reducible assumption)) | assumption | (refine then_ ?_ (by assumption))))
    have zV1 : w1.heap.size < V1.heap.size := by rw [hVe]; simp
    have p0 : V1.cell? ⟨w1.heap.size, 0, none⟩ = some (.int .i64 ((q : Int) + 1)) := by rw [hVe]; simp [go_sem]
    have p1 : V1.cell? ⟨w1.heap.size, 1, none⟩ = some (.slice O xs.length C) := by rw [hVe]; simp [go_sem]
    rw [← hVe]
    have rV1 := hr1.step hV1
    have hW2 := then_ hW1 hV1
    clear hVe hr1 hV1 hW1
    refine (drawSyms_any A m c bs _ (by omega) (hr.step hW2) hb).mono ?_
    rintro e w2 ⟨i, j, l, hi, hj, hl, rfl, hb2⟩
    have ti := sym8_ok i hi
    have tj := sym8_ok j hj
    generalize sym8 i = G1 at ti ⊢
    generalize sym8 j = G2 at tj ⊢
    generalize sym8 l = G3 at ⊢
    obtain ⟨tg, fg⟩ := G1
    obtain ⟨th, fh⟩ := G2
    obtain ⟨tl, fl_⟩ := G3
    dsimp only at ti tj ⊢
    have p0 := keepC p0 hb2
    have p1 := keepC p1 hb2
    have r2 := rV1.step hb2
    have hW3 := then_ hW2 hb2
    have z12 : w1.heap.size < w2.heap.size := by have := hb2.size; omega
    clear rV1 hb2 hW2 hi hj hl
    go_wp2_with fail
    obtain ⟨V, hVe⟩ : ∃ V, V = ((w2.alloc (Obj.cells #[.int .i64 tg, .bool fg] 52)).alloc (Obj.cells #[.int .i64 th, .bool fh] 52)).alloc (Obj.cells #[.int .i64 tl, .bool fl_] 52) := ⟨_, rfl⟩
    have hV : Below w2.heap.size w2 V := by rw [hVe]; (repeat (first | with_reducible assumption | exact Below.refl _ _ | (refine Below.setCell ?_ (by first | exact Nat.le_refl _ | (simp; done) | omega | (simp; omega)) _) | (refine below_drewN ?_ _) | (refine Below.drew ?_) | (refine Below.alloc ?_ (by first | exact Nat.le_refl _ | (simp; done) | omega | (simp; omega)) _) | (refine then_ ?_ (by with_reducible assumption)) | assumption | (refine then_ ?_ (by assumption))))
    have zV : V.heap.size = w2.heap.size + 3 := by rw [hVe]; simp
    have g0 : V.cell? ⟨w2.heap.size, 0, none⟩ = some (.int .i64 tg) := by rw [hVe]; simp [go_sem]
    have g1 : V.cell? ⟨w2.heap.size, 1, none⟩ = some (.bool fg) := by rw [hVe]; simp [go_sem]
    have h0 : V.cell? ⟨w2.heap.size + 1, 0, none⟩ = some (.int .i64 th) := by rw [hVe]; simp [go_sem]
    have h1 : V.cell? ⟨w2.heap.size + 1, 1, none⟩ = some (.bool fh) := by rw [hVe]; simp [go_sem]
    have p0 := keepC p0 hV
    have p1 := keepC p1 hV
    have rV := r2.step hV
    have hWV := then_ hW3 hV
    have ZV := Lib.hid zV
    have l1 : w1.heap.size < V.heap.size := by omega
    have l2 : w2.heap.size < V.heap.size := by omega
    have l3 : w2.heap.size + 1 < V.heap.size := by omega
    rw [← hVe]
    clear hVe r2 hV hW3 zV
    -- what is acted
    obtain ⟨X, hX⟩ : ∃ X, X = (actL tg fg ((q : Int) + 1) xs).2 := ⟨_, rfl⟩
    obtain ⟨⟨tt, ft⟩, hT⟩ : ∃ T, T = thenP tg fg th fh := ⟨_, rfl⟩
    obtain ⟨⟨tb, fb⟩, hTb⟩ : ∃ T, T = backP tg fg := ⟨_, rfl⟩
    have hpX : Pic q X := by rw [hX]; exact (act_pic (g := (tg, fg)) hp ti).1
    have tt3 : inB tt 0 3 = true := by have := then_in (g := (tg, fg)) (h := (th, fh)) ti tj; dsimp only at this; rw [← hT] at this; exact this
    have tb3 : inB tb 0 3 = true := by have := back_in (g := (tg, fg)) ti; dsimp only at this; rw [← hTb] at this; exact this
    obtain ⟨Y, hY⟩ : ∃ Y, Y = (actL th fh ((q : Int) + 1) X).2 := ⟨_, rfl⟩
    obtain ⟨Z, hZ⟩ : ∃ Z, Z = (actL tt ft ((q : Int) + 1) xs).2 := ⟨_, rfl⟩
    obtain ⟨U, hU⟩ : ∃ U, U = (actL tb fb ((q : Int) + 1) X).2 := ⟨_, rfl⟩
    have hpY : Pic q Y := by rw [hY]; exact (act_pic (g := (th, fh)) hpX tj).1
    have hpZ : Pic q Z := by rw [hZ]; exact (act_pic (g := (tt, ft)) hp tt3).1
    have hpU : Pic q U := by rw [hU]; exact (act_pic (g := (tb, fb)) hpX tb3).1
    have S1 : sameP ((q : Int) + 1) Y ((q : Int) + 1) Z = true := by
      have := same_then (g := (tg, fg)) (h := (th, fh)) hp ti tj
      dsimp only at this
      rw [← hT, ← hX] at this
      dsimp only at this
      rw [← hY, ← hZ] at this
      exact this
    have S2 : sameP ((q : Int) + 1) U ((q : Int) + 1) xs = true := by
      have := same_back (g := (tg, fg)) hp ti
      dsimp only at this
      rw [← hTb, ← hX] at this
      dsimp only at this
      rw [← hU] at this
      exact this
    have S3 : (symsP ((q : Int) + 1) X).length = (symsP ((q : Int) + 1) xs).length := by rw [hX]; exact count_act (g := (tg, fg)) hp ti
    have k1 := fun A c w h => actPicC (f := fg) hp ti A c w h
    have k2 := fun A c w h => actPicC (f := fh) hpX tj A c w h
    have k3 := fun A c w h => actPicC (f := ft) hp tt3 A c w h
    have k4 := fun A c w h => actPicC (f := fb) hpX tb3 A c w h
    rw [← hX] at k1
    rw [← hY] at k2
    rw [← hZ] at k3
    rw [← hU] at k4
    have K1 := Lib.hid k1
    have K2 := Lib.hid k2
    have K3 := Lib.hid k3
    have K4 := Lib.hid k4
    have T1 := Lib.hid hT
    have T2 := Lib.hid hTb
    have S3 := Lib.hid S3
    have nY : Y.length ≤ maxLen := by have := pic_len hpY; unfold maxLen; omega
    have nZ : Z.length ≤ maxLen := by have := pic_len hpZ; unfold maxLen; omega
    have nU : U.length ≤ maxLen := by have := pic_len hpU; unfold maxLen; omega
    have nx : xs.length ≤ maxLen := by unfold maxLen; omega
    have nX : X.length ≤ maxLen := by have := pic_len hpX; unfold maxLen; omega
    have HX := Lib.hid hpX
    -- what keeps the picture
    obtain ⟨ls, hls⟩ : ∃ ls, ls = symsP ((q : Int) + 1) xs := ⟨_, rfl⟩
    have n8 : ls.length ≤ 8 := by rw [hls, ← keptUp_8]; exact keptUp_len _ _ _
    have ks := fun A c w h => symsOfPicture_any ((q : Int) + 1) A xs.length c xs w nx h
    have ht : ∀ g ∈ ls, ∀ h ∈ ls, inS ls (thenP g.1 g.2 h.1 h.2) = true := by rw [hls]; exact fun g hg h hh => has_then hp hg hh
    have hi : inS ls (0, false) = true := by rw [hls]; exact has_id hp
    obtain ⟨kk, hk4, hmir, hall⟩ := mir_ok hp
    rw [← hls] at ks hall
    have kx := fun A c w h => symsOfPicture_any ((q : Int) + 1) A X.length c X w nX h
    obtain ⟨lx, hlx⟩ : ∃ lx, lx = symsP ((q : Int) + 1) X := ⟨_, rfl⟩
    rw [← hlx] at kx
    have S3 := S3.out
    rw [← hlx, ← hls] at S3
    have S3 := Lib.hid S3
    have KS := Lib.hid ks
    have KX := Lib.hid kx
    have HT := Lib.hid ht
    have HI := Lib.hid hi
    have HM := Lib.hid hmir
    have HA := Lib.hid hall
    clear ks kx ht hi hmir hall hls hlx
    clear k1 k2 k3 k4 hT hTb hX hY hZ hU hpX hpY hpZ hpU tt3 tb3 ti tj hp
    go_wp2_with fail
    go_region_held3 (fun w' => (∀ b o, b < V.heap.size → w'.cell? ⟨b, o, none⟩ = V.cell? ⟨b, o, none⟩) ∧ Below V.heap.size V w') (first | assumption | exact startS _ | exact stepS (by assumption) (by assumption)) (first | (go_at_call 35; (with_reducible refine (K1.out _ _ _ (rV.step ?_)).mono ?_); (repeat (first | with_reducible assumption | exact Below.refl _ _ | (refine Below.setCell ?_ (by first | exact Nat.le_refl _ | (simp; done) | omega | (simp; omega)) _) | (refine below_drewN ?_ _) | (refine Below.drew ?_) | (refine Below.alloc ?_ (by first | exact Nat.le_refl _ | (simp; done) | omega | (simp; omega)) _) | (refine then_ ?_ (by with_reducible assumption)) | assumption | (refine then_ ?_ (by assumption)))); rintro e w3 ⟨B3, d3, rfl, r3, hb3⟩) | (go_at_call 35; (with_reducible refine (K2.out _ _ _ (r3.step ?_)).mono ?_); (repeat (first | with_reducible assumption | exact Below.refl _ _ | (refine Below.setCell ?_ (by first | exact Nat.le_refl _ | (simp; done) | omega | (simp; omega)) _) | (refine below_drewN ?_ _) | (refine Below.drew ?_) | (refine Below.alloc ?_ (by first | exact Nat.le_refl _ | (simp; done) | omega | (simp; omega)) _) | (refine then_ ?_ (by with_reducible assumption)) | assumption | (refine then_ ?_ (by assumption)))); rintro e w4 ⟨B4, d4, rfl, r4, hb4⟩) | (go_at_call 43; refine (thenSym_any _ _ _ _ _).mono ?_; rintro e w5 ⟨rfl, hb5⟩; rw [← T1.out]; simp only [symP, symV]) | (go_at_call 35; (with_reducible refine (K3.out _ _ _ (rV.step ?_)).mono ?_); (repeat (first | with_reducible assumption | exact Below.refl _ _ | (refine Below.setCell ?_ (by first | exact Nat.le_refl _ | (simp; done) | omega | (simp; omega)) _) | (refine below_drewN ?_ _) | (refine Below.drew ?_) | (refine Below.alloc ?_ (by first | exact Nat.le_refl _ | (simp; done) | omega | (simp; omega)) _) | (refine then_ ?_ (by with_reducible assumption)) | assumption | (refine then_ ?_ (by assumption)))); rintro e w6 ⟨B6, d6, rfl, r6, hb6⟩) | (go_at_call 41; (with_reducible refine (samePicture_any B4 B6 _ _ _ _ _ _ Y Z _ nY nZ (r4.step ?_) (r6.step ?_)).mono ?_); (repeat (first | with_reducible assumption | exact Below.refl _ _ | (refine Below.setCell ?_ (by first | exact Nat.le_refl _ | (simp; done) | omega | (simp; omega)) _) | (refine below_drewN ?_ _) | (refine Below.drew ?_) | (refine Below.alloc ?_ (by first | exact Nat.le_refl _ | (simp; done) | omega | (simp; omega)) _) | (refine then_ ?_ (by with_reducible assumption)) | assumption | (refine then_ ?_ (by assumption)))); (repeat (first | with_reducible assumption | exact Below.refl _ _ | (refine Below.setCell ?_ (by first | exact Nat.le_refl _ | (simp; done) | omega | (simp; omega)) _) | (refine below_drewN ?_ _) | (refine Below.drew ?_) | (refine Below.alloc ?_ (by first | exact Nat.le_refl _ | (simp; done) | omega | (simp; omega)) _) | (refine then_ ?_ (by with_reducible assumption)) | assumption | (refine then_ ?_ (by assumption)))); rintro e w7 ⟨rfl, hb7⟩; rw [S1]) | (go_at_call 44; refine (backSym_any _ _ _).mono ?_; rintro e w8 ⟨rfl, hb8⟩; rw [← T2.out]; simp only [symP, symV]) | (go_at_call 35; (with_reducible refine (K4.out _ _ _ (r3.step ?_)).mono ?_); (repeat (first | with_reducible assumption | exact Below.refl _ _ | (refine Below.setCell ?_ (by first | exact Nat.le_refl _ | (simp; done) | omega | (simp; omega)) _) | (refine below_drewN ?_ _) | (refine Below.drew ?_) | (refine Below.alloc ?_ (by first | exact Nat.le_refl _ | (simp; done) | omega | (simp; omega)) _) | (refine then_ ?_ (by with_reducible assumption)) | assumption | (refine then_ ?_ (by assumption)))); rintro e w9 ⟨B9, d9, rfl, r9, hb9⟩) | (go_at_call 41; (with_reducible refine (samePicture_any B9 O _ _ _ _ _ _ U xs _ nU nx (r9.step ?_) (rV.step ?_)).mono ?_); (repeat (first | with_reducible assumption | exact Below.refl _ _ | (refine Below.setCell ?_ (by first | exact Nat.le_refl _ | (simp; done) | omega | (simp; omega)) _) | (refine below_drewN ?_ _) | (refine Below.drew ?_) | (refine Below.alloc ?_ (by first | exact Nat.le_refl _ | (simp; done) | omega | (simp; omega)) _) | (refine then_ ?_ (by with_reducible assumption)) | assumption | (refine then_ ?_ (by assumption)))); (repeat (first | with_reducible assumption | exact Below.refl _ _ | (refine Below.setCell ?_ (by first | exact Nat.le_refl _ | (simp; done) | omega | (simp; omega)) _) | (refine below_drewN ?_ _) | (refine Below.drew ?_) | (refine Below.alloc ?_ (by first | exact Nat.le_refl _ | (simp; done) | omega | (simp; omega)) _) | (refine then_ ?_ (by with_reducible assumption)) | assumption | (refine then_ ?_ (by assumption)))); rintro e w10 ⟨rfl, hb10⟩; rw [S2]))
    have hS := ‹_ ∧ Below V.heap.size V w10›
    have hVB := hS.2
    have p0 := keepC p0 hVB
    have p1 := keepC p1 hVB
    have g0 := keepC g0 hVB
    have g1 := keepC g1 hVB
    have rW := rV.step hVB
    have hW10 := then_ hWV hVB
    clear hS r3 r4 r6 r9 rV hVB hb3 hb4 hb5 hb6 hb7 hb8 hb9 hb10
    go_wp2_with fail
    refine (KS.out _ _ _ rW).mono ?_
    rintro e w11 ⟨G, d11, rfl, ho11, hb11⟩
    have r11 := Rd.of_own symC_len rfl ho11
    have p0 := keepC p0 hb11
    have p1 := keepC p1 hb11
    have g0 := keepC g0 hb11
    have g1 := keepC g1 hb11
    have rW := rW.step hb11
    have hW11 := then_ hW10 hb11
    clear ho11 hb11 hW10
    go_wp2_with fail
    go_loopw [8, 9] (fun a _ wr => ∃ i : Nat, i ≤ ls.length ∧ a = .int .i64 i ∧ Below w11.heap.size w11 wr) (fun a _ _ => ls.length - (intOf a).toNat)
    case atStart => exact ⟨0, Nat.zero_le _, rfl, Below.refl _ _⟩
    case round =>
      obtain ⟨i, hi, rfl, hw⟩ := hrel
      by_cases hlt : i < ls.length
      · have hii : (i : Int) < (ls.length : Int) := by omega
        have hi0 : (0 : Int) ≤ (i : Int) := by omega
        clear p0 p1 g0 g1 h0 h1
        go_wp2_with fail
        have HW := Lib.hid hw
        clear hw
        go_loopw [9] (fun a wr => ∃ j : Nat, j ≤ ls.length ∧ a = .int .i64 j ∧ Below w11.heap.size w11 wr) (fun a _ => ls.length - (intOf a).toNat)
        case atStart => exact ⟨0, Nat.zero_le _, rfl, HW.out⟩
        case round =>
          clear HW
          obtain ⟨j, hj, rfl, hw⟩ := hrel
          by_cases hlj : j < ls.length
          · have hji : (j : Int) < (ls.length : Int) := by omega
            have hj0 : (0 : Int) ≤ (j : Int) := by omega
            obtain ⟨b, off, t1, f1, rfl, hbl, hx1, c0, c1⟩ := (r11.below hw).sym hlt
            obtain ⟨b', off', t2, f2, e, hbl', hx2, c0', c1'⟩ := (r11.below hw).sym hlj
            injection e with e
            injection e with e1 e2
            subst e1 e2
            have TT := Lib.hid (HT.out _ (List.mem_of_getElem? hx1) _ (List.mem_of_getElem? hx2))
            dsimp only at TT
            have rl := r11.step hw
            have lb := World.block_lt_of_cell? _ _ c0
            dsimp only at lb
            clear hx1 hx2
            go_wp2_with fail
            go_region_held3 (fun w' => (∀ b o, b < wr.heap.size → w'.cell? ⟨b, o, none⟩ = wr.cell? ⟨b, o, none⟩) ∧ Below wr.heap.size wr w') (first | assumption | exact startS _ | exact stepS (by assumption) (by assumption)) (first | (go_at_call 43; refine (thenSym_any _ _ _ _ _).mono ?_; rintro e w12 ⟨rfl, hb12⟩; simp only [symP, symV]) | (go_at_call 46; refine (has_any _ _ _ _ _ ls _ (by omega) (rl.step ?_)).mono ?_; (repeat (first | with_reducible assumption | exact Below.refl _ _ | (refine Below.setCell ?_ (by first | exact Nat.le_refl _ | (simp; done) | omega | (simp; omega)) _) | (refine below_drewN ?_ _) | (refine Below.drew ?_) | (refine Below.alloc ?_ (by first | exact Nat.le_refl _ | (simp; done) | omega | (simp; omega)) _) | (refine then_ ?_ (by with_reducible assumption)) | assumption | (refine then_ ?_ (by assumption)))); rintro e w13 ⟨rfl, hb13⟩; rw [show inS ls ((thenP t1 f1 t2 f2).1, (thenP t1 f1 t2 f2).2) = true from TT.out]))
            have hS := ‹_ ∧ Below wr.heap.size wr w13›
            have hB := then_ hw hS.2
            clear hS hb12 hb13
            go_wp2
            go_roundw
            case rel => exact ⟨j + 1, by omega, by go_num, hB⟩
            case measure => simp [intOf]; omega
          · obtain rfl : j = ls.length := by omega
            go_wp2
            go_roundw
            case rel => exact ⟨i + 1, by omega, by go_num, hw⟩
            case measure => simp [intOf]; omega
      · obtain rfl : i = ls.length := by omega
        have p0 := keepC p0 hw
        have p1 := keepC p1 hw
        have g0 := keepC g0 hw
        have g1 := keepC g1 hw
        have rW := rW.step hw
        have rl := r11.step hw
        have hW12 := then_ hW11 hw
        go_wp2_with fail
        refine (mirrorsOfPicture_any ((q : Int) + 1) O xs.length C xs _ nx rW).mono ?_
        rw [HM.out]
        rintro e w14 ⟨rfl, hb14⟩
        have p0 := keepC p0 hb14
        have p1 := keepC p1 hb14
        have g0 := keepC g0 hb14
        have g1 := keepC g1 hb14
        have rW := rW.step hb14
        have rl := rl.step hb14
        have hW14 := then_ hW12 hb14
        have kk0 : ¬ (kk : Int) < 0 := by omega
        have kk0' : (0 : Int) ≤ (kk : Int) := by omega
        clear hb14 hw hW12 hW11
        go_wp2_with fail
        refine (has_any 0 false _ _ _ ls _ (by omega) rl).mono ?_
        rw [HI.out]
        rintro e w15 ⟨rfl, hb15⟩
        have p0 := keepC p0 hb15
        have p1 := keepC p1 hb15
        have g0 := keepC g0 hb15
        have g1 := keepC g1 hb15
        have rW := rW.step hb15
        have rl := rl.step hb15
        have hW15 := then_ hW14 hb15
        clear hb15 hW14
        go_wp2_with fail
        obtain ⟨ms, hms⟩ : ∃ ms, ms = symsL (kk : Int) := ⟨_, rfl⟩
        have n8m : ms.length ≤ 8 := by rw [hms]; exact symsUp_len _ _
        have HA := HA.out
        have km := fun w => symsOf_any (kk : Int) w
        rw [← hms] at HA km
        have HA := Lib.hid HA
        have KM := Lib.hid km
        clear km hms
        refine (KM.out _).mono ?_
        rintro e w16 ⟨H, c16, rfl, ho16, hb16⟩
        have r16 := Rd.of_own symC_len rfl ho16
        have p0 := keepC p0 hb16
        have p1 := keepC p1 hb16
        have g0 := keepC g0 hb16
        have g1 := keepC g1 hb16
        have rW := rW.step hb16
        have rl := rl.step hb16
        have hW16 := then_ hW15 hb16
        clear hb16 hW15 ho16
        go_wp2_with fail
        go_loopw [12] (fun a wr => ∃ i : Nat, i ≤ ms.length ∧ a = .int .i64 i ∧ Below w16.heap.size w16 wr) (fun a _ => ms.length - (intOf a).toNat)
        case atStart => exact ⟨0, Nat.zero_le _, rfl, Below.refl _ _⟩
        case round =>
          obtain ⟨i, hi, rfl, hw⟩ := hrel
          have p0 := keepC p0 hw
          have p1 := keepC p1 hw
          have g0 := keepC g0 hw
          have g1 := keepC g1 hw
          have rW := rW.step hw
          have rl := rl.step hw
          have hW17 := then_ hW16 hw
          by_cases hlt : i < ms.length
          · have hii : (i : Int) < (ms.length : Int) := by omega
            have hi0 : (0 : Int) ≤ (i : Int) := by omega
            obtain ⟨b, off, t1, f1, rfl, hbl, hx1, c0, c1⟩ := (r16.below hw).sym hlt
            have TT := Lib.hid (HA.out _ (List.mem_of_getElem? hx1))
            clear hx1 p0 p1 g0 g1
            go_wp2_with fail
            refine (has_any t1 f1 _ _ _ ls _ (by omega) rl).mono ?_
            rw [TT.out]
            rintro e w17 ⟨rfl, hb17⟩
            have hB := then_ hw hb17
            go_wp2
            go_roundw
            case rel => exact ⟨i + 1, by omega, by go_num, hB⟩
            case measure => simp [intOf]; omega
          · obtain rfl : i = ms.length := by omega
            clear rl
            go_wp2_with fail
            refine (K1.out _ _ _ rW).mono ?_
            rintro e w18 ⟨B18, d18, rfl, r18, hb18⟩
            go_wp2_with fail
            refine (KX.out _ _ _ r18).mono ?_
            rintro e w19 ⟨B19, d19, rfl, ho19, hb19⟩
            have hz : ((lx.length : Int) == (ls.length : Int)) = true := by rw [S3.out]; simp
            go_wp2
            go_ret
            exact ⟨by simp, then_ (then_ hW17 hb18) hb19⟩

namespace fnPictures
theorem own : ownKnob Try.prog.godebug = none := by kernel_rfl
theorem laidOut : laidOutB Try.prog = true := by kernel_rfl
set_option maxRecDepth 100000 in
theorem lifted (os : Os) (started : os.Started) (H : Type) (enc : TypeId × Value → H) :
    ReturnsInHanded {} Try.checked os 10 .any (Rows.fnPicturesSpec.pre6 enc Try.prog Try.f10 Rows.fnPicturesRow.domain false) (Rows.fnPicturesSpec.post enc Try.prog Try.f10 false true false false) := by
  refine returnsInHanded_of_change (C := Try.checked) own started (by kernel_rfl) Try.func10
    (ChangeSpec.witness6 (enc := enc) (C := Try.checked) false ⟨#[], #[.slice none 0 0], []⟩ 8 (by kernel_rfl) (by kernel_rfl) (by kernel_rfl) (by kernel_rfl)) ?_
  intro W base args ds gs before hval0 hW hcnd _
  have hval : ∀ (j : Nat) t v, Try.f10.params[j]? = some t → args[j]? = some v → Value.okWide Try.prog W .any base t v := hval0
  have hW' := hW
  obtain ⟨p, q, hA0, hV, rfl, hfz, hnd⟩ := hW
  have hA : DataW.TrodAll enc Try.prog W 0 (fun _ => true) true Try.f10.params.toList args.toList ds p := hA0
  rw [Try.params10] at hA hval
  obtain ⟨v0, vs0, d0, ds0, p0, q0, hargs, rfl, rfl, h0, r0⟩ := trodAll_cons hA
  obtain ⟨rfl, rfl, rfl⟩ := trodAll_nil r0
  obtain rfl : args = #[v0] := by cases args; simp_all
  obtain ⟨rfl, rfl⟩ := trodVars_none hV
  have k0 := h0
  have lt0 : ∀ x ∈ p0, x.block < W.heap.size := by obtain ⟨m, hm⟩ := k0; exact DataW.trod_lt m _ _ _ hm
  obtain ⟨A, n, c, bs, rfl, hn, ha, hbs⟩ := open_bytes Try.underlying58 Try.underlying5 (by kernel_rfl) (hval 0 58 v0 rfl rfl) h0
  clear hA0 hval0
  refine (lawPictures A n c bs W ha hbs).mono fun e W' ⟨he, bel⟩ => ?_
  subst he
  exact ⟨_, rfl, _, _, _, [], _, [], hW', trodAll_mk1 (shut_bool Try.underlying4 _), (trodAll_cons_mk (Below.trod laidOut (by kernel_rfl) (of_decide_eq_true (by kernel_rfl)) k0 bel lt0) trodAll_mk0), rfl, bel.frame _, fun h => by cases h⟩

theorem and_mk {a b : Bool} (h : a = true) (k : b = true) : (a && b) = true := by rw [h, k]; rfl
set_option maxHeartbeats 40000000 in
theorem facts : joinedFacts Try.pinned.checked.prog 10 Try.f10 Rows.fnPicturesSpec Rows.fnPicturesRow = true := by
  unfold joinedFacts
  repeat (with_reducible refine and_mk ?_ ?_)
  all_goals (as_aux_lemma => kernel_rfl)
theorem named_ : Try.pinned.checked.prog.funcNamed Rows.fnPicturesRow.func = some 10 := by kernel_rfl
theorem over : Rows.fnPicturesRow.holds Try.pinned (OpenSpec.ofChange Rows.fnPicturesSpec) :=
  OpenClaim.holds_of_wide 10 Try.f10 rfl rfl rfl rfl rfl rfl rfl ⟨rfl, rfl, rfl, rfl, rfl⟩ rfl rfl rfl rfl rfl named_ Try.func10 facts
    (of_decide_eq_true (by kernel_rfl)) (by unfold Func.isWrapper; first | (rw [if_pos (by decide +kernel)]; kernel_rfl) | (rw [if_neg (by decide +kernel)]; exact ⟨rfl, rfl⟩))
    (fun os started H enc _ => lifted os started H enc)

theorem proved : Rows.FnPicturesSaid := over
end fnPictures
end Go.Proofs.Ythlkpopmoodmgaa
