
/- For every input: a picture that is spread has the symmetries of the mirrors, and spread again it stays; as many first cells there are as kinds of cells (FnSpread answers true). No condition. -/
import Derived.Test.YthlkpopmoodmgaaSprL
import Derived.Test.YthlkpopmoodmgaaHas
import Derived.Test.YthlkpopmoodmgaaSpread
import Derived.Test.YthlkpopmoodmgaaOpen
import Derived.ProofKit
import Derived.ChangeOld
import Derived.Below
import Derived.Deep.RegionHeld3
import Derived.Laws.Cover3
namespace Go.Proofs.Ythlkpopmoodmgaa
open Go.ChangeShapes Go.WideShapes Go.ChangeAt Go.RowKit

theorem colEq_self {x : Col} (h : colB x = true) : colEqB x x = true := by rw [colEq_key h h]; simp
theorem sum_take_succ {l : List Nat} {i x : Nat} (h : l[i]? = some x) : (l.take (i + 1)).sum = (l.take i).sum + x := by
  rw [List.take_add_one, h]; simp

set_option maxRecDepth 100000 in
set_option maxHeartbeats 8000000 in
theorem lawSpreads (A : Option Addr) (m c : Nat) (bs : List Int) (w : World) (hr : Rd byteC 1 w w.heap.size A m bs) (hb : ∀ x ∈ bs, 0 ≤ x ∧ x ≤ 255) :
    Calls Try.prog 13 #[.slice A m c] w fun e w' => e = .returned (.bool true) ∧ Below w.heap.size w w' := by
  by_cases hbig : (4096 : Int) < m
  · have hd : decide ((4096 : Int) < m) = true := by simpa using hbig
    go_enter Try.func13, Try.ntmps13
    go_wp2_with (go_at_call 39; refine (bigS_any _ _ _ _).mono ?_; rintro e w' ⟨rfl, rfl⟩; rw [hd])
    go_ret
    exact ⟨rfl, by (repeat (first | with_reducible assumption | exact Below.refl _ _ | (refine Below.setCell ?_ (by first | exact Nat.le_refl _ | (simp; done) | omega | (simp; omega)) _) | (refine below_drewN ?_ _) | (refine Below.drew ?_) | (refine Below.alloc ?_ (by first | exact Nat.le_refl _ | (simp; done) | omega | (simp; omega)) _) | (refine then_ ?_ (by with_reducible assumption)) | assumption | (refine then_ ?_ (by assumption))))⟩
  · have hd : decide ((4096 : Int) < m) = false := by simpa using hbig
    go_enter Try.func13, Try.ntmps13
    go_wp2_with fail
    refine (bigS_any _ _ _ _).mono ?_
    rintro e w' ⟨rfl, rfl⟩
    rw [hd]
    go_wp2_with fail
    refine (drawPicture_any A m c bs _ (by omega) (hr.step (by (repeat (first | with_reducible assumption | exact Below.refl _ _ | (refine Below.setCell ?_ (by first | exact Nat.le_refl _ | (simp; done) | omega | (simp; omega)) _) | (refine below_drewN ?_ _) | (refine Below.drew ?_) | (refine Below.alloc ?_ (by first | exact Nat.le_refl _ | (simp; done) | omega | (simp; omega)) _) | (refine then_ ?_ (by with_reducible assumption)) | assumption | (refine then_ ?_ (by assumption)))))) hb).mono ?_
    rintro e w1 ⟨q, xs, O, C, hq5, hp, rfl, hr1, hb1⟩
    have hn := pic_len hp
    have nx : xs.length ≤ maxLen := by unfold maxLen; omega
    have hW1 : Below w.heap.size w w1 := by (repeat (first | with_reducible assumption | exact Below.refl _ _ | (refine Below.setCell ?_ (by first | exact Nat.le_refl _ | (simp; done) | omega | (simp; omega)) _) | (refine below_drewN ?_ _) | (refine Below.drew ?_) | (refine Below.alloc ?_ (by first | exact Nat.le_refl _ | (simp; done) | omega | (simp; omega)) _) | (refine then_ ?_ (by with_reducible assumption)) | assumption | (refine then_ ?_ (by assumption))))
    obtain ⟨kk, hkk⟩ : ∃ kk : Nat, (m : Int) % 4 = (kk : Int) := ⟨m % 4, by omega⟩
    have hk4 : kk < 4 := by omega
    obtain ⟨sp1, sp2⟩ := spread_pic hp hk4
    have ks := fun A c w h => spreadPicture_any (kk : Int) ((q : Int) + 1) A xs.length c xs w nx h
    have kin : inB (kk : Int) 0 3 = true := by unfold inB; simp; omega
    have ok1 : spreadOk (kk : Int) ((q : Int) + 1) xs = true := by unfold spreadOk; rw [kin, pic_ok hp]; rfl
    rw [sp1, ok1] at ks
    dsimp only at ks
    obtain ⟨ys, hys⟩ : ∃ ys, ys = spreadUp (kk : Int) ((q : Int) + 1) xs xs.length := ⟨_, rfl⟩
    rw [← hys] at ks sp2
    have ny : ys.length ≤ maxLen := by have := pic_len sp2; unfold maxLen; omega
    obtain ⟨sp3, sp4⟩ := spread_pic sp2 hk4
    have kt := fun A c w h => spreadPicture_any (kk : Int) ((q : Int) + 1) A ys.length c ys w ny h
    have ok2 : spreadOk (kk : Int) ((q : Int) + 1) ys = true := by unfold spreadOk; rw [kin, pic_ok sp2]; rfl
    rw [sp3, ok2] at kt
    dsimp only at kt
    have s1 := spr_same hk4 hq5 hp hys
    obtain ⟨zs, hzs⟩ : ∃ zs, zs = spreadUp (kk : Int) ((q : Int) + 1) ys ys.length := ⟨_, rfl⟩
    rw [← hzs] at kt sp4 s1
    have nz : zs.length ≤ maxLen := by have := pic_len sp4; unfold maxLen; omega
    have hmir := spr_mir hk4 hq5 hp hys
    have k3 := fun A B c d w ha hb => samePicture_any A B ((q : Int) + 1) ((q : Int) + 1) ys.length zs.length c d ys zs w ny nz ha hb
    rw [s1] at k3
    have k4 := fun A c w ha => mirrorsOfPicture_any ((q : Int) + 1) A ys.length c ys w ny ha
    obtain ⟨mi, hmi⟩ : ∃ mi, mi = mirI ((q : Int) + 1) ys := ⟨_, rfl⟩
    rw [← hmi] at hmir k4
    have k5 := fun w => firstCells_any (kk : Int) ((q : Int) + 1) w
    have hfst := fun c hc => spr_first (c := c) hk4 hq5 hp hys hc
    have hsum := (spr_facts hk4 hq5).2.2
    obtain ⟨fs, hfs⟩ : ∃ fs, fs = firstsL (kk : Int) ((q : Int) + 1) := ⟨_, rfl⟩
    rw [← hfs] at k5 hfst hsum
    have hfl : fs.length ≤ 64 := by
      have e2 : inB ((q : Int) + 1) 1 8 = true := by unfold inB; simp; omega
      rw [hfs]
      unfold firstsL
      rw [kin, e2]
      refine Nat.le_trans (firstsUp_len _ _ _) ?_
      have h3 : ((q : Int) + 1) * ((q : Int) + 1) ≤ 8 * 8 := Int.mul_le_mul (by omega) (by omega) (by omega) (by omega)
      omega
    have hcol : ∀ (k : Nat) x, xs[k]? = some x → colB x = true := fun k x hx => List.all_eq_true.1 hp.2.2 x (List.mem_of_getElem? hx)
    have hsq : ((q : Int) + 1) * ((q : Int) + 1) = (((q + 1) * (q + 1) : Nat) : Int) := by rw [Int.natCast_mul]; rfl
    have hyl : ys.length = xs.length := by rw [sp2.2.1, hp.2.1]
    have hxl := hp.2.1
    obtain ⟨S, hS⟩ : ∃ S : Nat, S = q + 1 := ⟨_, rfl⟩
    have eS : (q : Int) + 1 = (S : Int) := by omega
    have S5 : S ≤ 5 := by omega
    have S1 : 1 ≤ S := by omega
    rw [eS] at ks kt k3 k4 k5 hsq hfst hsum ⊢
    rw [← hS] at hsq hsum hxl
    have KS := Lib.hid ks
    have KT := Lib.hid kt
    have K3 := Lib.hid k3
    have K4 := Lib.hid k4
    have K5 := Lib.hid k5
    have HF := Lib.hid hfst
    have HS := Lib.hid hsum
    have HC := Lib.hid hcol
    have HX := Lib.hid hxl
    have HY := Lib.hid hyl
    clear ks kt k3 k4 k5 hfst hsum hcol hS hys hzs hmi hfs sp1 sp2 sp3 sp4 hp hb1 eS ok1 ok2 s1 kin hxl hyl
    go_wp2_with fail
    obtain ⟨V1, hVe⟩ : ∃ V, V = w1.alloc (Obj.cells #[.int .i64 (S : Int), .slice O xs.length C] 29) := ⟨_, rfl⟩
    have hV1 : Below w1.heap.size w1 V1 := by rw [hVe]; (repeat (first | with_reducible assumption | exact Below.refl _ _ | (refine Below.setCell ?_ (by first | exact Nat.le_refl _ | (simp; done) | omega | (simp; omega)) _) | (refine below_drewN ?_ _) | (refine Below.drew ?_) | (refine Below.alloc ?_ (by first | exact Nat.le_refl _ | (simp; done) | omega | (simp; omega)) _) | (refine then_ ?_ (by with_reducible assumption)) | assumption | (refine then_ ?_ (by assumption))))
    have zV1 : w1.heap.size < V1.heap.size := by rw [hVe]; simp
    have p0 : V1.cell? ⟨w1.heap.size, 0, none⟩ = some (.int .i64 (S : Int)) := by rw [hVe]; simp [go_sem]
    have p1 : V1.cell? ⟨w1.heap.size, 1, none⟩ = some (.slice O xs.length C) := by rw [hVe]; simp [go_sem]
    rw [← hVe]
    have rx := hr1.step hV1
    have hW2 := then_ hW1 hV1
    clear hVe hr1 hV1 hW1
    rw [hkk]
    refine (KS.out _ _ _ rx).mono ?_
    rintro e w2 ⟨B2, d2, rfl, ho2, hb2⟩
    have ry := Rd.of_own colC_len rfl ho2
    have p0 := keepC p0 hb2
    have p1 := keepC p1 hb2
    have rx := rx.step hb2
    have hW3 := then_ hW2 hb2
    have z12 : w1.heap.size < w2.heap.size := by have := hb2.size; omega
    clear hb2 hW2 ho2
    go_wp2_with fail
    obtain ⟨V, hVe⟩ : ∃ V, V = w2.alloc (Obj.cells #[.int .i64 (S : Int), .slice B2 ys.length d2] 29) := ⟨_, rfl⟩
    have hV : Below w2.heap.size w2 V := by rw [hVe]; (repeat (first | with_reducible assumption | exact Below.refl _ _ | (refine Below.setCell ?_ (by first | exact Nat.le_refl _ | (simp; done) | omega | (simp; omega)) _) | (refine below_drewN ?_ _) | (refine Below.drew ?_) | (refine Below.alloc ?_ (by first | exact Nat.le_refl _ | (simp; done) | omega | (simp; omega)) _) | (refine then_ ?_ (by with_reducible assumption)) | assumption | (refine then_ ?_ (by assumption))))
    have zV : w2.heap.size < V.heap.size := by rw [hVe]; simp
    have g0 : V.cell? ⟨w2.heap.size, 0, none⟩ = some (.int .i64 (S : Int)) := by rw [hVe]; simp [go_sem]
    have g1 : V.cell? ⟨w2.heap.size, 1, none⟩ = some (.slice B2 ys.length d2) := by rw [hVe]; simp [go_sem]
    have p0 := keepC p0 hV
    have p1 := keepC p1 hV
    have rx := rx.step hV
    have ry := ry.step hV
    have hW4 := then_ hW3 hV
    rw [← hVe]
    clear hVe hV hW3
    refine (KT.out _ _ _ ry).mono ?_
    rintro e w3 ⟨B3, d3, rfl, ho3, hb3⟩
    have rz := Rd.of_own colC_len rfl ho3
    have p0 := keepC p0 hb3
    have p1 := keepC p1 hb3
    have g0 := keepC g0 hb3
    have g1 := keepC g1 hb3
    have rx := rx.step hb3
    have ry := ry.step hb3
    have hW5 := then_ hW4 hb3
    have z23 : w2.heap.size < w3.heap.size := by have := hb3.size; omega
    clear hb3 hW4 ho3
    go_wp2_with fail
    obtain ⟨V3, hVe⟩ : ∃ V, V = w3.alloc (Obj.cells #[.int .i64 (S : Int), .slice B3 zs.length d3] 29) := ⟨_, rfl⟩
    have hV : Below w3.heap.size w3 V3 := by rw [hVe]; (repeat (first | with_reducible assumption | exact Below.refl _ _ | (refine Below.setCell ?_ (by first | exact Nat.le_refl _ | (simp; done) | omega | (simp; omega)) _) | (refine below_drewN ?_ _) | (refine Below.drew ?_) | (refine Below.alloc ?_ (by first | exact Nat.le_refl _ | (simp; done) | omega | (simp; omega)) _) | (refine then_ ?_ (by with_reducible assumption)) | assumption | (refine then_ ?_ (by assumption))))
    have t0 : V3.cell? ⟨w3.heap.size, 0, none⟩ = some (.int .i64 (S : Int)) := by rw [hVe]; simp [go_sem]
    have t1 : V3.cell? ⟨w3.heap.size, 1, none⟩ = some (.slice B3 zs.length d3) := by rw [hVe]; simp [go_sem]
    have p0 := keepC p0 hV
    have p1 := keepC p1 hV
    have g0 := keepC g0 hV
    have g1 := keepC g1 hV
    have rx := rx.step hV
    have ry := ry.step hV
    have rz := rz.step hV
    have hW6 := then_ hW5 hV
    rw [← hVe]
    clear hVe hV hW5
    refine (K3.out _ _ _ _ _ ry rz).mono ?_
    rintro e w4 ⟨rfl, hb4⟩
    have p0 := keepC p0 hb4
    have p1 := keepC p1 hb4
    have g0 := keepC g0 hb4
    have g1 := keepC g1 hb4
    have rx := rx.step hb4
    have ry := ry.step hb4
    have hW7 := then_ hW6 hb4
    clear hb4 hW6 rz t0 t1
    go_wp2_with fail
    refine (K4.out _ _ _ ry).mono ?_
    rintro e w5 ⟨rfl, hb5⟩
    have p0 := keepC p0 hb5
    have p1 := keepC p1 hb5
    have g0 := keepC g0 hb5
    have g1 := keepC g1 hb5
    have rx := rx.step hb5
    have ry := ry.step hb5
    have hW8 := then_ hW7 hb5
    have hml : ¬ mi < (kk : Int) := by omega
    clear hb5 hW7
    go_wp2_with fail
    refine (K5.out _).mono ?_
    rintro e w6 ⟨B6, d6, rfl, ho6, hb6⟩
    have r6 := Rd.of_own intC_len rfl ho6
    have p0 := keepC p0 hb6
    have p1 := keepC p1 hb6
    have g0 := keepC g0 hb6
    have g1 := keepC g1 hb6
    have rx := rx.step hb6
    have ry := ry.step hb6
    have hW9 := then_ hW8 hb6
    clear hb6 hW8 ho6
    go_wp2_with fail
    obtain ⟨L, hL⟩ : ∃ L : List Nat, L = fs.map (fun c => (orbL (kk : Int) (ptI (S : Int) c)).length) := ⟨_, rfl⟩
    have HL := Lib.hid hL
    have LL : Hid (L.length = fs.length) := Lib.hid (by rw [hL, List.length_map])
    have LS : Hid (L.sum = S * S) := Lib.hid (by rw [hL]; exact HS.out)
    clear hL
    go_loopw [10, 11] (fun a i wr => ∃ k : Nat, k ≤ fs.length ∧ i = .int .i64 k ∧ a = .int .i64 (((L.take k).sum : Nat) : Int) ∧ (L.take k).sum ≤ 8 * k ∧ Below w6.heap.size w6 wr) (fun _ i _ => fs.length - (intOf i).toNat)
    case atStart => exact ⟨0, Nat.zero_le _, rfl, rfl, by simp, Below.refl _ _⟩
    case round =>
      obtain ⟨i, hi, rfl, rfl, hsb, hw⟩ := hrel
      have p0 := keepC p0 hw
      have p1 := keepC p1 hw
      have g0 := keepC g0 hw
      have g1 := keepC g1 hw
      have hWr := then_ hW9 hw
      by_cases hlt : i < fs.length
      · obtain ⟨b6, off6, cc, rfl, hbl6, hxc, c0⟩ := (r6.below hw).int hlt
        obtain ⟨k, rfl, hkx, hokc, heq⟩ := HF.out cc (List.mem_of_getElem? hxc)
        obtain ⟨bx, offx, r, gg, l, rfl, hblx, hx, x0, x1, x2⟩ := (rx.step hw).col hkx
        obtain ⟨by_, offy, r', gg', l', rfl, hbly, hy, y0, y1, y2⟩ := (ry.step hw).col (show k < ys.length by rw [HY.out]; exact hkx)
        rw [heq, hx] at hy
        injection hy with hy
        obtain ⟨rfl, rfl, rfl⟩ : r = r' ∧ gg = gg' ∧ l = l' := by simpa using hy
        have hcc := colEq_self (HC.out k _ hx)
        have kq : ∀ wx, (binOp .neq 78 (.agg #[.float .f32 r, .float .f32 gg, .float .f32 l]) (.agg #[.float .f32 r, .float .f32 gg, .float .f32 l])).run Try.prog wx = .ok (.bool false) wx := fun wx => by rw [run_neq_col, hcc]; rfl
        have hLi : L[i]? = some (orbL (kk : Int) (ptI (S : Int) (k : Int))).length := by rw [HL.out, List.getElem?_map, hxc]; rfl
        have hsum := sum_take_succ hLi
        obtain ⟨N, hN⟩ : ∃ N, N = (orbL (kk : Int) (ptI (S : Int) (k : Int))).length := ⟨_, rfl⟩
        rw [← hN] at hsum
        have hN8 : N ≤ 8 := by
          rw [hN]; unfold orbL
          exact Nat.le_trans (orbUp_len _ _ _) (symsUp_len _ _)
        have hsm := (ptI_sm hokc).mono (c := 8) (by omega)
        have ko := fun w => orbitOf_any kk (ptI (S : Int) (k : Int)) w hk4 hsm
        rw [← hN] at ko
        have kp := fun w => placeOf_ok (S : Int) (k : Int) w hokc
        generalize fl (ptI (S : Int) (k : Int)).1 = P1 at ko kp
        generalize fl (ptI (S : Int) (k : Int)).2 = P2 at ko kp
        have KO := Lib.hid ko
        have KP := Lib.hid kp
        obtain ⟨T, hT⟩ : ∃ T, T = (L.take i).sum := ⟨_, rfl⟩
        rw [← hT] at hsum hsb ⊢
        have hT1 : T ≤ 512 := by omega
        have SUM := Lib.hid hsum
        have hwr : IntKind.i64.wrap ((T : Int) + (N : Int)) = ((T + N : Nat) : Int) := by rw [IntKind.wrap_i64]; omega
        have hii : (i : Int) < (fs.length : Int) := by omega
        have hi0 : (0 : Int) ≤ (i : Int) := by omega
        have hkx' : (k : Int) < (xs.length : Int) := by omega
        have hky' : (k : Int) < (ys.length : Int) := by have := HY.out; omega
        have hk0 : (0 : Int) ≤ (k : Int) := by omega
        have l6 := World.block_lt_of_cell? _ _ c0
        have lp := World.block_lt_of_cell? _ _ p0
        have lg := World.block_lt_of_cell? _ _ g0
        dsimp only at l6 lp lg
        clear ko kp hN hT hsum hsm hxc heq hx hy hcc hokc hLi
        go_wp2_with fail
        go_region_held3 (fun w' => (∀ b o, b < wr.heap.size → w'.cell? ⟨b, o, none⟩ = wr.cell? ⟨b, o, none⟩) ∧ Below wr.heap.size wr w') (first | assumption | exact startS _ | exact stepS (by assumption) (by assumption)) (first | (go_at_call 54; refine (KP.out _).mono ?_; rintro e w7 ⟨rfl, hd⟩; replace hd := hd.below))
        obtain ⟨-, hB7⟩ := ‹_ ∧ Below wr.heap.size wr w7›
        have p0' := keepC p0 hB7
        have p1' := keepC p1 hB7
        have g0' := keepC g0 hB7
        have g1' := keepC g1 hB7
        have c0' := keepC c0 hB7
        have x0' := keepC x0 hB7
        have x1' := keepC x1 hB7
        have x2' := keepC x2 hB7
        have y0' := keepC y0 hB7
        have y1' := keepC y1 hB7
        have y2' := keepC y2 hB7
        go_wp2_with fail
        refine (KO.out _).mono ?_
        rintro e w8 ⟨A8, c8, rfl, hb8⟩
        have p0 := keepC p0' hb8
        have p1 := keepC p1' hb8
        have g0 := keepC g0' hb8
        have g1 := keepC g1' hb8
        have c0 := keepC c0' hb8
        have x0 := keepC x0' hb8
        have x1 := keepC x1' hb8
        have x2 := keepC x2' hb8
        have y0 := keepC y0' hb8
        have y1 := keepC y1' hb8
        have y2 := keepC y2' hb8
        have hB8 := then_ (then_ hw hB7) hb8
        clear p0' p1' g0' g1' c0' x0' x1' x2' y0' y1' y2' hb8 hd
        go_wp2
        go_quiet (fail)
        go_wp2
        go_roundw
        case rel => exact ⟨i + 1, by omega, by go_num, by rw [SUM.out]; rfl, by rw [SUM.out]; omega, by (repeat (first | with_reducible assumption | exact Below.refl _ _ | (refine Below.setCell ?_ (by first | exact Nat.le_refl _ | (simp; done) | omega | (simp; omega)) _) | (refine below_drewN ?_ _) | (refine Below.drew ?_) | (refine Below.alloc ?_ (by first | exact Nat.le_refl _ | (simp; done) | omega | (simp; omega)) _) | (refine then_ ?_ (by with_reducible assumption)) | assumption | (refine then_ ?_ (by assumption))))⟩
        case measure => simp [intOf]; omega
      · obtain rfl : i = fs.length := by omega
        have e1 : (L.take fs.length).sum = S * S := by rw [← LL.out, List.take_length]; exact LS.out
        rw [e1]
        have hM25 : S * S ≤ 5 * 5 := Nat.mul_le_mul S5 S5
        obtain ⟨M, hM⟩ : ∃ M, M = S * S := ⟨_, rfl⟩
        rw [← hM] at hsq hM25 ⊢
        clear hM e1
        go_wp2
        go_ret
        exact ⟨by simp, hWr⟩

namespace fnSpread
theorem own : ownKnob Try.prog.godebug = none := by kernel_rfl
theorem laidOut : laidOutB Try.prog = true := by kernel_rfl
set_option maxRecDepth 100000 in
theorem lifted (os : Os) (started : os.Started) (H : Type) (enc : TypeId × Value → H) :
    ReturnsInHanded {} Try.checked os 13 .any (Rows.fnSpreadSpec.pre6 enc Try.prog Try.f13 Rows.fnSpreadRow.domain false) (Rows.fnSpreadSpec.post enc Try.prog Try.f13 false true false false) := by
  refine returnsInHanded_of_change (C := Try.checked) own started (by kernel_rfl) Try.func13
    (ChangeSpec.witness6 (enc := enc) (C := Try.checked) false ⟨#[], #[.slice none 0 0], []⟩ 8 (by kernel_rfl) (by kernel_rfl) (by kernel_rfl) (by kernel_rfl)) ?_
  intro W base args ds gs before hval0 hW hcnd _
  have hval : ∀ (j : Nat) t v, Try.f13.params[j]? = some t → args[j]? = some v → Value.okWide Try.prog W .any base t v := hval0
  have hW' := hW
  obtain ⟨p, q, hA0, hV, rfl, hfz, hnd⟩ := hW
  have hA : DataW.TrodAll enc Try.prog W 0 (fun _ => true) true Try.f13.params.toList args.toList ds p := hA0
  rw [Try.params13] at hA hval
  obtain ⟨v0, vs0, d0, ds0, p0, q0, hargs, rfl, rfl, h0, r0⟩ := trodAll_cons hA
  obtain ⟨rfl, rfl, rfl⟩ := trodAll_nil r0
  obtain rfl : args = #[v0] := by cases args; simp_all
  obtain ⟨rfl, rfl⟩ := trodVars_none hV
  have k0 := h0
  have lt0 : ∀ x ∈ p0, x.block < W.heap.size := by obtain ⟨m, hm⟩ := k0; exact DataW.trod_lt m _ _ _ hm
  obtain ⟨A, n, c, bs, rfl, hn, ha, hbs⟩ := open_bytes Try.underlying58 Try.underlying5 (by kernel_rfl) (hval 0 58 v0 rfl rfl) h0
  clear hA0 hval0
  refine (lawSpreads A n c bs W ha hbs).mono fun e W' ⟨he, bel⟩ => ?_
  subst he
  exact ⟨_, rfl, _, _, _, [], _, [], hW', trodAll_mk1 (shut_bool Try.underlying4 _), (trodAll_cons_mk (Below.trod laidOut (by kernel_rfl) (of_decide_eq_true (by kernel_rfl)) k0 bel lt0) trodAll_mk0), rfl, bel.frame _, fun h => by cases h⟩

theorem and_mk {a b : Bool} (h : a = true) (k : b = true) : (a && b) = true := by rw [h, k]; rfl
set_option maxHeartbeats 40000000 in
theorem facts : joinedFacts Try.pinned.checked.prog 13 Try.f13 Rows.fnSpreadSpec Rows.fnSpreadRow = true := by
  unfold joinedFacts
  repeat (with_reducible refine and_mk ?_ ?_)
  all_goals (as_aux_lemma => kernel_rfl)
theorem named_ : Try.pinned.checked.prog.funcNamed Rows.fnSpreadRow.func = some 13 := by kernel_rfl
theorem over : Rows.fnSpreadRow.holds Try.pinned (OpenSpec.ofChange Rows.fnSpreadSpec) :=
  OpenClaim.holds_of_wide 13 Try.f13 rfl rfl rfl rfl rfl rfl rfl ⟨rfl, rfl, rfl, rfl, rfl⟩ rfl rfl rfl rfl rfl named_ Try.func13 facts
    (of_decide_eq_true (by kernel_rfl)) (by unfold Func.isWrapper; first | (rw [if_pos (by decide +kernel)]; kernel_rfl) | (rw [if_neg (by decide +kernel)]; exact ⟨rfl, rfl⟩))
    (fun os started H enc _ => lifted os started H enc)

theorem proved : Rows.FnSpreadSaid := over
end fnSpread
end Go.Proofs.Ythlkpopmoodmgaa
