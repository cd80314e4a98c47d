
/- FnTurnedGlass: without mirrors the picture of turned glass is the turned picture. -/
import Derived.Test.YtchkcleenmoajaaTakeL
import Derived.Test.YtchkcleenmoajaaDrawSyms
import Derived.Test.YtchkcleenmoajaaAct
import Derived.Test.YtchkcleenmoajaaM15
import Derived.Test.YtchkcleenmoajaaOpen
import Derived.ProofKit
import Derived.ChangeOld
import Derived.Deep.RegionHeld3
import Derived.Deep.RegionLaw
import Derived.Below
import Derived.Laws.Cover3
namespace Go.Proofs.Ytchkcleenmoajaa
open Go.ChangeShapes Go.WideShapes Go.ChangeAt Go.RowKit
attribute [local go_sem] run_store_float run_store_complex

theorem take_map {t : Int} {f : Bool} {ls : List Sh} {k : Nat} {s : Sh} (hx : ls[k]? = some s) : (ls.take (k + 1)).map (actSh t f) = (ls.take k).map (actSh t f) ++ [actSh t f s] := by
  have : ls.take (k + 1) = ls.take k ++ [s] := by
    rw [List.take_add_one, hx]; rfl
  rw [this, List.map_append]
  rfl
set_option maxRecDepth 100000 in
set_option maxHeartbeats 8000000 in
theorem lawTurnedGlass (A : Option Addr) (m c : Nat) (bs : List Int) (w : World) (hr : Rd byteC 1 w w.heap.size A m bs) (hb : ∀ x ∈ bs, 0 ≤ x ∧ x ≤ 255) :
    Calls Try.prog 3 #[.slice A m c] w fun e w' => e = .returned (.bool true) ∧ Below w.heap.size w w' := by
  obtain ⟨i0, hi, hz0, hz1, hz2⟩ := info_parts infoSh
  by_cases hbig : (4096 : Int) < m
  · have hd : decide ((4096 : Int) < m) = true := by simp [hbig]
    go_enter Try.func3, Try.ntmps3
    go_wp2_with (go_at_call 5; refine (bigT_any _ _ _ _).mono ?_; rintro e w' ⟨rfl, rfl⟩; simp only [hd])
    go_ret
    exact ⟨rfl, by (repeat (first | with_reducible assumption | exact Below.refl _ _ | (refine Below.setCell ?_ (by first | exact Nat.le_refl _ | (simp; done) | omega | (simp; omega)) _) | (refine below_drewN ?_ _) | (refine Below.drew ?_) | (refine Below.alloc ?_ (by first | exact Nat.le_refl _ | (simp; done) | omega | (simp; omega)) _) | (refine then_ ?_ (by with_reducible assumption)) | assumption | (refine then_ ?_ (by assumption))))⟩
  · have hd : decide ((4096 : Int) < m) = false := by simp [hbig]
    have hm : m ≤ 4096 := by omega
    go_enter Try.func3, Try.ntmps3
    go_wp2_with (go_at_call 5; refine (bigT_any _ _ _ _).mono ?_; rintro e w' ⟨rfl, rfl⟩; simp only [hd])
    refine (drawTaken_any A m c bs _ hm hr hb).mono ?_
    rintro e w1 ⟨K, q, ls, O, C, st, cr, cg, cl, hK, hq, hll, hok, hst, hcol, rfl, ho1, hb1⟩
    obtain ⟨n, hn⟩ : ∃ n, n = ls.length := ⟨_, rfl⟩
    rw [← hn] at ho1 hll ⊢
    have HN := Lib.hid hn
    have HOK := Lib.hid hok
    have HST := Lib.hid hst
    have HC := Lib.hid hcol
    have O1 := Lib.hid ho1
    have hle := hb1.size
    obtain ⟨s, hs⟩ : ∃ s : Int, s = (q : Int) + 1 := ⟨_, rfl⟩
    rw [← hs]
    have HS := Lib.hid hs
    have s1 : 1 ≤ s := by omega
    have s2 : s ≤ 6 := by omega
    clear ho1 hn hok hst hcol hs hK
    go_wp2_with fail
    obtain ⟨V1, hV1⟩ : ∃ V, V = w1.alloc (Obj.cells #[.float .f32 cr, .float .f32 cg, .float .f32 cl] 27) := ⟨_, rfl⟩
    have bV1 : Below w1.heap.size w1 V1 := by rw [hV1]; (repeat (first | with_reducible assumption | exact Below.refl _ _ | (refine Below.setCell ?_ (by first | exact Nat.le_refl _ | (simp; done) | omega | (simp; omega)) _) | (refine below_drewN ?_ _) | (refine Below.drew ?_) | (refine Below.alloc ?_ (by first | exact Nat.le_refl _ | (simp; done) | omega | (simp; omega)) _) | (refine then_ ?_ (by with_reducible assumption)) | assumption | (refine then_ ?_ (by assumption))))
    have l0 : V1.cell? ⟨w1.heap.size, 0, none⟩ = some (.float .f32 cr) := by rw [hV1]; simp [go_sem]
    have l1 : V1.cell? ⟨w1.heap.size, 1, none⟩ = some (.float .f32 cg) := by rw [hV1]; simp [go_sem]
    have l2 : V1.cell? ⟨w1.heap.size, 2, none⟩ = some (.float .f32 cl) := by rw [hV1]; simp [go_sem]
    rw [← hV1]
    have rL := (Rd.of_own shC_len HN.out.symm O1.out).step bV1
    have B1 := then_ hb1 bV1
    clear hV1 bV1 hb1 O1
    refine (drawSyms_any A m c bs _ hm (hr.step B1) hb).mono ?_
    rintro e w2 ⟨i, j, k, hi8, hj8, hk8, rfl, hb2⟩
    have l0 := keepC l0 hb2
    have l1 := keepC l1 hb2
    have l2 := keepC l2 hb2
    have rL := rL.step hb2
    have B2 := then_ B1 hb2
    have hti := sym8_t i hi8
    clear hb2 B1
    generalize sym8 i = gi at hti
    generalize sym8 j = gj
    generalize sym8 k = gk
    obtain ⟨t, f⟩ := gi
    obtain ⟨tj, fj⟩ := gj
    obtain ⟨tk, fk⟩ := gk
    dsimp only at hti ⊢
    clear hi8 hj8 hk8 i j k
    go_upto_region 5 with fail
    obtain ⟨V2, hV2⟩ : ∃ V, V = ((w2.alloc (Obj.cells #[.int .i64 t, .bool f] 31)).alloc (Obj.cells #[.int .i64 tj, .bool fj] 31)).alloc (Obj.cells #[.int .i64 tk, .bool fk] 31) := ⟨_, rfl⟩
    have bV2 : Below w2.heap.size w2 V2 := by rw [hV2]; (repeat (first | with_reducible assumption | exact Below.refl _ _ | (refine Below.setCell ?_ (by first | exact Nat.le_refl _ | (simp; done) | omega | (simp; omega)) _) | (refine below_drewN ?_ _) | (refine Below.drew ?_) | (refine Below.alloc ?_ (by first | exact Nat.le_refl _ | (simp; done) | omega | (simp; omega)) _) | (refine then_ ?_ (by with_reducible assumption)) | assumption | (refine then_ ?_ (by assumption))))
    have S0 : V2.cell? ⟨w2.heap.size, 0, none⟩ = some (.int .i64 t) := by rw [hV2]; simp [go_sem]
    have S1 : V2.cell? ⟨w2.heap.size, 1, none⟩ = some (.bool f) := by rw [hV2]; simp [go_sem]
    rw [← hV2]
    have l0 := keepC l0 bV2
    have l1 := keepC l1 bV2
    have l2 := keepC l2 bV2
    have rL := rL.step bV2
    have B3 := then_ B2 bV2
    clear hV2 bV2 B2
    go_wp2_with fail
    obtain ⟨V3, hV3⟩ : ∃ V, V = V2.alloc (Obj.cells #[] 36) := ⟨_, rfl⟩
    have bV3 : Below V2.heap.size V2 V3 := by rw [hV3]; (repeat (first | with_reducible assumption | exact Below.refl _ _ | (refine Below.setCell ?_ (by first | exact Nat.le_refl _ | (simp; done) | omega | (simp; omega)) _) | (refine below_drewN ?_ _) | (refine Below.drew ?_) | (refine Below.alloc ?_ (by first | exact Nat.le_refl _ | (simp; done) | omega | (simp; omega)) _) | (refine then_ ?_ (by with_reducible assumption)) | assumption | (refine then_ ?_ (by assumption))))
    have o0 := World.ownsRow_lit (base := V2.heap.size) (size := 7) (e := 36) V2 #[] 0 (Nat.le_refl _) (by simp [maxLen]) rfl
    rw [← hV3] at o0
    rw [← hV3]
    clear hV3
    go_loopw [11, 12] (fun s i wr => ∃ (k : Nat) (O' : Option Addr) (C' : Nat), k ≤ n ∧ s = .slice O' k C' ∧ i = .int .i64 k ∧ wr.ownsRow V2.heap.size 36 7 (.slice O' k C') k (flat shC ((ls.take k).map (actSh t f))) ∧ Below V2.heap.size V2 wr) (fun _ i _ => n - (intOf i).toNat)
    case atStart => exact ⟨0, _, _, Nat.zero_le _, rfl, rfl, o0, bV3⟩
    case round =>
      clear o0 bV3
      obtain ⟨k, O', C', hkn, rfl, rfl, hown, hw⟩ := hrel
      have OW := Lib.hid hown
      have p0 := keepC S0 hw
      have p1 := keepC S1 hw
      have k0 := keepC l0 hw
      have k1 := keepC l1 hw
      have k2 := keepC l2 hw
      have lS : w2.heap.size < wr.heap.size := World.block_lt_of_cell? _ _ p0
      have lL : w1.heap.size < wr.heap.size := World.block_lt_of_cell? _ _ k0
      clear hown
      by_cases hlt : k < n
      · obtain ⟨bb, off, a, b, d, sr, sg, sl, sq, rfl, hbl, hx, x0, x1, x2, x3, x4, x5, x6⟩ := (rL.step hw).sh hlt
        have hki : (k : Int) < (n : Int) := by omega
        have hk0 : (0 : Int) ≤ (k : Int) := by omega
        have hss := List.all_eq_true.1 HOK.out _ (List.mem_of_getElem? hx)
        have ka := fun w => actShard_yes t f a b d sr sg sl sq w hti hss
        have ST2 : (ls.take (k + 1)).map (actSh t f) = (ls.take k).map (actSh t f) ++ [(actP t f a.1 a.2, actP t f b.1 b.2, actP t f d.1 d.2, (sr, sg, sl), sq)] := take_map hx
        generalize actP t f a.1 a.2 = P1 at ka ST2
        generalize actP t f b.1 b.2 = P2 at ka ST2
        generalize actP t f d.1 d.2 = P3 at ka ST2
        have KA := Lib.hid ka
        have ST := Lib.hid ST2
        clear ka ST2 hss hx
        go_wp2_with fail
        go_region_law ((first
          | (go_simp; go_at_call 8; (with_reducible refine (KA.out _).mono ?_); rintro e w5 ⟨rfl, hb5⟩; have hB5 : Below wr.heap.size wr w5 := (by (repeat (first | with_reducible assumption | exact Below.refl _ _ | (refine Below.setCell ?_ (by first | exact Nat.le_refl _ | (simp; done) | omega | (simp; omega)) _) | (refine below_drewN ?_ _) | (refine Below.drew ?_) | (refine Below.alloc ?_ (by first | exact Nat.le_refl _ | (simp; done) | omega | (simp; omega)) _) | (refine then_ ?_ (by with_reducible assumption)) | assumption | (refine then_ ?_ (by assumption))))); have OW5 := Lib.hid (owns_below OW.out hB5); have hz5 := hB5.size; have hw5 := then_ hw hB5; have zz5 := hw5.size)
          | (refine step_append_lies _ (by rfl) _ _ _ (by rfl) V2.heap.size 36 i0 _ 7 40 Try.underlying24 hi hz0 hz1 hz2 rfl (by omega) _ _ _ (by rfl) (OW5.out.alloc _) ⟨w5.heap.size, 0, none⟩ 1 1 [.complex .f32 P1.1 P1.2, .complex .f32 P2.1 P2.2, .complex .f32 P3.1 P3.2, .float .f32 sr, .float .f32 sg, .float .f32 sl, .float .f32 sq] (by rfl) (by rfl) (World.news_of_block (cs := #[.complex .f32 P1.1 P1.2, .complex .f32 P2.1 P2.2, .complex .f32 P3.1 P3.2, .float .f32 sr, .float .f32 sg, .float .f32 sl, .float .f32 sq]) (t := 36) (fr := (0, 0)) (heap_alloc_new w5 _)) (by simp [Value.oneCell']) (by omega) (by unfold maxLen; omega) (by omega) (by simp; omega) (w5.heap.size + 1) (by simp) ?_; intro gg cap w6 hown6 hg6 hat6 hlt6; have hB6 : Below V2.heap.size V2 w6 := Below.grown (hw5.alloc hw5.size _) hg6 (by simp; omega) (fun j hj => (by have := (OW5.out.lt j hj).1; omega)); have OW6 := Lib.hid hown6; clear hown6 hg6 hat6)))
        all_goals
          go_wp2
          go_roundw
          case rel =>
            refine ⟨k + 1, some ⟨gg, 0, none⟩, cap, by omega, rfl, by go_num, ?_, hB6⟩
            rw [ST.out, flat_append]
            exact OW6.out
          case measure => simp [intOf]; omega
      · obtain rfl : k = n := by omega
        obtain ⟨ks, hks⟩ : ∃ x, x = ls.map (actSh t f) := ⟨_, rfl⟩
        have ht : ls.take k = ls := by rw [HN.out]; exact List.take_length
        rw [ht, ← hks] at OW
        have LK : ks.length = k := by rw [hks, List.length_map]; exact HN.out.symm
        have OKK : ks.all okSh = true := by rw [hks]; exact turned_ok HOK.out
        obtain ⟨N, hN⟩ : ∃ N, N = (q + 1) * (q + 1) := ⟨_, rfl⟩
        have hNs : s * s = (N : Int) := by rw [HS.out, hN]; push_cast; rfl
        have hs8 : inB s 1 8 = true := by unfold inB; simp only [Bool.and_eq_true, decide_eq_true_eq]; omega
        obtain ⟨_, hstp, _⟩ := step_facts HST.out
        have hN64 : N ≤ maxLen := by
          have b3 : (q + 1) * (q + 1) ≤ 6 * 6 := Nat.mul_le_mul (by omega) (by omega)
          unfold maxLen; omega
        have TS := turned_same (t := t) (f := f) (q := q) hti (by omega) HST.out HOK.out HC.out
        rw [← hks, ← hN, ← HS.out] at TS
        have KT := Lib.hid (fun w h => takePicture_yes 0 s st O k C ls cr cg cl N w rfl hs8 hstp (by omega) HOK.out HC.out hNs h)
        have KU := Lib.hid (fun w h => takePicture_yes 0 s st O' k C' ks cr cg cl N w rfl hs8 hstp (by omega) OKK HC.out hNs h)
        have L1 := takeUp_len 0 s st ls (cr, cg, cl) N
        have L2 := takeUp_len 0 s st ks (cr, cg, cl) N
        generalize takeUp 0 s st ls (cr, cg, cl) N = T1 at TS KT L1
        generalize takeUp 0 s st ks (cr, cg, cl) N = T2 at TS KU L2
        have AL : (actL t f s T1).2.length ≤ T1.length := by
          unfold actL
          split
          · exact Nat.le_of_eq (actUp_len _ _ _ _ _)
          · simp
        have TS := Lib.hid TS
        have L1 := Lib.hid L1
        have L2 := Lib.hid L2
        have AL := Lib.hid AL
        have HM := Lib.hid hN64
        have r1 := rL.step hw
        have rK := Rd.of_own shC_len LK OW.out
        have B4 := then_ B3 hw
        clear hks ht LK OKK hN hNs hs8 hstp hN64 HN HOK HST HC HS rL OW B3 hw
        go_wp2_with fail
        refine (KT.out _ r1).mono ?_
        rintro e w3 ⟨⟨E3, d3, rfl, ho3⟩, hb3⟩
        have p0 := keepC p0 hb3
        have p1 := keepC p1 hb3
        have k0 := keepC k0 hb3
        have k1 := keepC k1 hb3
        have k2 := keepC k2 hb3
        have rK := rK.step hb3
        have rT := Rd.of_own colC_len L1.out ho3
        have B5 := then_ B4 hb3
        have lS : w2.heap.size < w3.heap.size := World.block_lt_of_cell? _ _ p0
        have lL : w1.heap.size < w3.heap.size := World.block_lt_of_cell? _ _ k0
        clear r1 ho3 hb3 B4 KT
        go_wp2_with fail
        obtain ⟨V4, hV4⟩ : ∃ V, V = w3.alloc (Obj.cells #[.int .i64 s, .slice E3 N d3] 40) := ⟨_, rfl⟩
        have bV4 : Below w3.heap.size w3 V4 := by rw [hV4]; (repeat (first | with_reducible assumption | exact Below.refl _ _ | (refine Below.setCell ?_ (by first | exact Nat.le_refl _ | (simp; done) | omega | (simp; omega)) _) | (refine below_drewN ?_ _) | (refine Below.drew ?_) | (refine Below.alloc ?_ (by first | exact Nat.le_refl _ | (simp; done) | omega | (simp; omega)) _) | (refine then_ ?_ (by with_reducible assumption)) | assumption | (refine then_ ?_ (by assumption))))
        have a0 : V4.cell? ⟨w3.heap.size, 0, none⟩ = some (.int .i64 s) := by rw [hV4]; simp [go_sem]
        have a1 : V4.cell? ⟨w3.heap.size, 1, none⟩ = some (.slice E3 N d3) := by rw [hV4]; simp [go_sem]
        rw [← hV4]
        have p0 := keepC p0 bV4
        have p1 := keepC p1 bV4
        have rK := rK.step bV4
        have rT := rT.step bV4
        have B6 := then_ B5 bV4
        clear hV4 bV4 B5
        refine (KU.out _ rK).mono ?_
        rintro e w4 ⟨⟨E4, d4, rfl, ho4⟩, hb4⟩
        have p0 := keepC p0 hb4
        have p1 := keepC p1 hb4
        have a0 := keepC a0 hb4
        have a1 := keepC a1 hb4
        have rT := rT.step hb4
        have rU := Rd.of_own colC_len L2.out ho4
        have B7 := then_ B6 hb4
        have lS : w2.heap.size < w4.heap.size := World.block_lt_of_cell? _ _ p0
        have lA : w3.heap.size < w4.heap.size := World.block_lt_of_cell? _ _ a0
        clear rK ho4 hb4 B6 KU k0 k1 k2 l0 l1 l2
        go_wp2_with fail
        obtain ⟨V5, hV5⟩ : ∃ V, V = w4.alloc (Obj.cells #[.int .i64 s, .slice E4 N d4] 40) := ⟨_, rfl⟩
        have bV5 : Below w4.heap.size w4 V5 := by rw [hV5]; (repeat (first | with_reducible assumption | exact Below.refl _ _ | (refine Below.setCell ?_ (by first | exact Nat.le_refl _ | (simp; done) | omega | (simp; omega)) _) | (refine below_drewN ?_ _) | (refine Below.drew ?_) | (refine Below.alloc ?_ (by first | exact Nat.le_refl _ | (simp; done) | omega | (simp; omega)) _) | (refine then_ ?_ (by with_reducible assumption)) | assumption | (refine then_ ?_ (by assumption))))
        have b0 : V5.cell? ⟨w4.heap.size, 0, none⟩ = some (.int .i64 s) := by rw [hV5]; simp [go_sem]
        have b1 : V5.cell? ⟨w4.heap.size, 1, none⟩ = some (.slice E4 N d4) := by rw [hV5]; simp [go_sem]
        rw [← hV5]
        have p0 := keepC p0 bV5
        have p1 := keepC p1 bV5
        have a0 := keepC a0 bV5
        have a1 := keepC a1 bV5
        have rT := rT.step bV5
        have rU := rU.step bV5
        have B8 := then_ B7 bV5
        have lS : w2.heap.size < V5.heap.size := World.block_lt_of_cell? _ _ p0
        have lA : w3.heap.size < V5.heap.size := World.block_lt_of_cell? _ _ a0
        have lB : w4.heap.size < V5.heap.size := World.block_lt_of_cell? _ _ b0
        clear hV5 bV5 B7 S0 S1
        have KX := Lib.hid (fun w h => actPicture_any t f s E3 N d3 T1 w HM.out h)
        generalize actL t f s T1 = Q at TS KX AL
        obtain ⟨s', Y⟩ := Q
        have LY : Y.length ≤ maxLen := by have h1 := AL.out; have h2 := L1.out; have h3 := HM.out; dsimp only at h1; omega
        have KY := Lib.hid (fun E d w h1 h2 => samePicture_any E4 E s s' N Y.length d4 d T2 Y w HM.out LY h1 h2)
        rw [TS.out] at KY
        dsimp only at KX
        clear LY AL TS L1 L2
        go_region_held3 (fun w' => (∀ b o, b < V5.heap.size → w'.cell? ⟨b, o, none⟩ = V5.cell? ⟨b, o, none⟩) ∧ Below V5.heap.size V5 w') (first | assumption | exact startS _ | exact stepS (by assumption) (by assumption)) (first | (go_at_call 11; (with_reducible refine (KX.out _ (rT.step ?_)).mono ?_); (repeat (first | with_reducible assumption | exact Below.refl _ _ | (refine Below.setCell ?_ (by first | exact Nat.le_refl _ | (simp; done) | omega | (simp; omega)) _) | (refine below_drewN ?_ _) | (refine Below.drew ?_) | (refine Below.alloc ?_ (by first | exact Nat.le_refl _ | (simp; done) | omega | (simp; omega)) _) | (refine then_ ?_ (by with_reducible assumption)) | assumption | (refine then_ ?_ (by assumption)))); rintro e w6 ⟨E6, d6, rfl, ho6, hb6⟩; have r6 := Rd.of_own colC_len rfl ho6; clear ho6) | (go_at_call 10; (with_reducible refine (KY.out _ _ _ (rU.step ?_) (r6.step ?_)).mono ?_); (repeat (first | with_reducible assumption | exact Below.refl _ _ | (refine Below.setCell ?_ (by first | exact Nat.le_refl _ | (simp; done) | omega | (simp; omega)) _) | (refine below_drewN ?_ _) | (refine Below.drew ?_) | (refine Below.alloc ?_ (by first | exact Nat.le_refl _ | (simp; done) | omega | (simp; omega)) _) | (refine then_ ?_ (by with_reducible assumption)) | assumption | (refine then_ ?_ (by assumption)))); (repeat (first | with_reducible assumption | exact Below.refl _ _ | (refine Below.setCell ?_ (by first | exact Nat.le_refl _ | (simp; done) | omega | (simp; omega)) _) | (refine below_drewN ?_ _) | (refine Below.drew ?_) | (refine Below.alloc ?_ (by first | exact Nat.le_refl _ | (simp; done) | omega | (simp; omega)) _) | (refine then_ ?_ (by with_reducible assumption)) | assumption | (refine then_ ?_ (by assumption)))); rintro e w7 ⟨rfl, hb7⟩))
        have hS := ‹_ ∧ Below V5.heap.size V5 w7›
        have B9 := then_ B8 hS.2
        clear hS
        go_wp2
        go_ret
        exact ⟨rfl, by (repeat (first | with_reducible assumption | exact Below.refl _ _ | (refine Below.setCell ?_ (by first | exact Nat.le_refl _ | (simp; done) | omega | (simp; omega)) _) | (refine below_drewN ?_ _) | (refine Below.drew ?_) | (refine Below.alloc ?_ (by first | exact Nat.le_refl _ | (simp; done) | omega | (simp; omega)) _) | (refine then_ ?_ (by with_reducible assumption)) | assumption | (refine then_ ?_ (by assumption))))⟩

namespace fnTurnedGlass
theorem own : ownKnob Try.prog.godebug = none := by kernel_rfl
theorem laidOut : laidOutB Try.prog = true := by kernel_rfl
set_option maxRecDepth 100000 in
theorem lifted (os : Os) (started : os.Started) (H : Type) (enc : TypeId × Value → H) :
    ReturnsInHanded {} Try.checked os 3 .any (Rows.fnTurnedGlassSpec.pre6 enc Try.prog Try.f3 Rows.fnTurnedGlassRow.domain false) (Rows.fnTurnedGlassSpec.post enc Try.prog Try.f3 false true false false) := by
  refine returnsInHanded_of_change (C := Try.checked) own started (by kernel_rfl) Try.func3
    (ChangeSpec.witness6 (enc := enc) (C := Try.checked) false ⟨#[], #[.slice none 0 0], []⟩ 8 (by kernel_rfl) (by kernel_rfl) (by kernel_rfl) (by kernel_rfl)) ?_
  intro W base args ds gs before hval0 hW hcnd _
  have hval : ∀ (j : Nat) t v, Try.f3.params[j]? = some t → args[j]? = some v → Value.okWide Try.prog W .any base t v := hval0
  have hW' := hW
  obtain ⟨p, q, hA0, hV, rfl, hfz, hnd⟩ := hW
  have hA : DataW.TrodAll enc Try.prog W 0 (fun _ => true) true Try.f3.params.toList args.toList ds p := hA0
  rw [Try.params3] at hA hval
  obtain ⟨v0, vs0, d0, ds0, p0, q0, hargs, rfl, rfl, h0, r0⟩ := trodAll_cons hA
  obtain ⟨rfl, rfl, rfl⟩ := trodAll_nil r0
  obtain rfl : args = #[v0] := by cases args; simp_all
  obtain ⟨rfl, rfl⟩ := trodVars_none hV
  have k0 := h0
  have lt0 : ∀ x ∈ p0, x.block < W.heap.size := by obtain ⟨m, hm⟩ := k0; exact DataW.trod_lt m _ _ _ hm
  obtain ⟨A, n, c, bs, rfl, hn, ha, hbs⟩ := open_bytes Try.underlying22 Try.underlying5 (by kernel_rfl) (hval 0 22 v0 rfl rfl) h0
  clear hA0 hval0
  refine (lawTurnedGlass A n c bs W ha hbs).mono fun e W' ⟨he, bel⟩ => ?_
  subst he
  exact ⟨_, rfl, _, _, _, [], _, [], hW', trodAll_mk1 (shut_bool Try.underlying4 _), (trodAll_cons_mk (Below.trod laidOut (by kernel_rfl) (of_decide_eq_true (by kernel_rfl)) k0 bel lt0) trodAll_mk0), rfl, bel.frame _, fun h => by cases h⟩

theorem and_mk {a b : Bool} (h : a = true) (k : b = true) : (a && b) = true := by rw [h, k]; rfl
set_option maxHeartbeats 40000000 in
theorem facts : joinedFacts Try.pinned.checked.prog 3 Try.f3 Rows.fnTurnedGlassSpec Rows.fnTurnedGlassRow = true := by
  unfold joinedFacts
  repeat (with_reducible refine and_mk ?_ ?_)
  all_goals (as_aux_lemma => kernel_rfl)
theorem named_ : Try.pinned.checked.prog.funcNamed Rows.fnTurnedGlassRow.func = some 3 := by kernel_rfl
theorem over : Rows.fnTurnedGlassRow.holds Try.pinned (OpenSpec.ofChange Rows.fnTurnedGlassSpec) :=
  OpenClaim.holds_of_wide 3 Try.f3 rfl rfl rfl rfl rfl rfl rfl ⟨rfl, rfl, rfl, rfl, rfl⟩ rfl rfl rfl rfl rfl named_ Try.func3 facts
    (of_decide_eq_true (by kernel_rfl)) (by unfold Func.isWrapper; first | (rw [if_pos (by decide +kernel)]; kernel_rfl) | (rw [if_neg (by decide +kernel)]; exact ⟨rfl, rfl⟩))
    (fun os started H enc _ => lifted os started H enc)

theorem proved : Rows.FnTurnedGlassSaid := over
end fnTurnedGlass
end Go.Proofs.Ytchkcleenmoajaa
