
/- FnSeen: what is seen in a show has the symmetries of its mirrors, and is what a question tells. -/
import Derived.Test.YthlphmojldbpkaaGreatXS
import Derived.ProofKit
import Derived.ChangeOld
import Derived.Deep.RegionHeld3
import Derived.Deep.RegionLaw
import Derived.Below
import Derived.Laws.Cover3
namespace Go.Proofs.YthlphmojldbpkaaGreat
open Go.ChangeShapes Go.WideShapes Go.ChangeAt Go.RowKit
attribute [local go_sem] run_store_float run_store_complex

theorem first_symS (kind : Int) (hk : inB kind 0 3 = true) : ∃ l, symsL kind = (0, false) :: l := by
  rcases kinds hk with rfl | rfl | rfl | rfl
  · exact ⟨_, syms0⟩
  · exact ⟨_, syms1⟩
  · exact ⟨_, syms2⟩
  · exact ⟨_, syms3⟩
theorem seen_syms {u : Shw} {N : Nat} {xs : List Col} (hd : Drawn u) (hN : ∃ q : Nat, u.sz = (q : Int) + 1 ∧ q < 6 ∧ N = (q + 1) * (q + 1)) (hxs : xs = takeUp u.mir u.sz u.st (glassUp u.sh u.bs u.sh.length) u.li N) :
    (∀ g ∈ symsP u.sz xs, inB g.1 0 3 = true) ∧ 0 < (symsP u.sz xs).length := by
  have hall := (seen_all hd hN hxs).2.2.2.2.2.1
  obtain ⟨q, hq, hq6, hNN⟩ := hN
  obtain ⟨m0, m3⟩ := inB_true hd.good.mir
  obtain ⟨K, hK⟩ : ∃ K : Nat, u.mir = (K : Int) := ⟨u.mir.toNat, by omega⟩
  have TP : TakenP K q xs := by
    rw [hxs, hK, hq, hNN]
    exact taken_p (by omega) (by omega) (stepsD_L hd.stl) (glassUp_ok _ _ _) hd.good.li
  constructor
  · intro g hg
    rw [hq] at hg
    exact symsL_in g ((mem_symsP TP.1).1 hg).1
  · obtain ⟨l, hl⟩ := first_symS u.mir hd.good.mir
    have := hall (0, false) (by rw [hl]; exact List.mem_cons_self ..)
    rw [inS_iff] at this
    exact List.length_pos_of_mem this

set_option maxRecDepth 100000 in
set_option maxHeartbeats 32000000 in
theorem lawSeen (A : Option Addr) (m c : Nat) (bs : List Int) (w : World) (hr : Rd byteC 1 w w.heap.size A m bs) (hb : ∀ x ∈ bs, 0 ≤ x ∧ x ≤ 255) :
    Calls Tryz.prog 4 #[.slice A m c] w fun e w' => e = .returned (.bool true) ∧ Below w.heap.size w w' := by
  by_cases hbig : (4096 : Int) < m
  · have hd : decide ((4096 : Int) < m) = true := by simp [hbig]
    go_enter Tryz.func4, Tryz.ntmps4
    go_wp2_with (go_at_call 6; refine (bigT_any _ _ _ _).mono ?_; rintro e w' ⟨rfl, rfl⟩; simp only [hd])
    go_ret
    exact ⟨rfl, by (repeat (first | with_reducible assumption | exact Below.refl _ _ | (refine Below.setCell ?_ (by first | exact Nat.le_refl _ | (simp; done) | omega | (simp; omega)) _) | (refine below_drewN ?_ _) | (refine Below.drew ?_) | (refine Below.alloc ?_ (by first | exact Nat.le_refl _ | (simp; done) | omega | (simp; omega)) _) | (refine then_ ?_ (by with_reducible assumption)) | assumption | (refine then_ ?_ (by assumption))))⟩
  · have hd : decide ((4096 : Int) < m) = false := by simp [hbig]
    have hm : m ≤ 4096 := by omega
    go_enter Tryz.func4, Tryz.ntmps4
    go_wp2_with (go_at_call 6; refine (bigT_any _ _ _ _).mono ?_; rintro e w' ⟨rfl, rfl⟩; simp only [hd])
    refine (drawShow_any A m c bs _ hm hr hb).mono ?_
    rintro r w1 ⟨s, e, S, B, L, k, d, q, HD, he, rfl, own, hW⟩
    have hg := HD.good
    have hk := HD.ok
    obtain ⟨N, hN, hN64, hNq⟩ := seen_size HD
    obtain ⟨xs, hxs⟩ : ∃ xs, xs = takeUp s.mir s.sz s.st (glassUp s.sh s.bs s.sh.length) s.li N := ⟨_, rfl⟩
    obtain ⟨LX, _, _, _, _, HS, MI, hcol⟩ := seen_all HD hNq hxs
    obtain ⟨hin, h0⟩ := seen_syms HD hNq hxs
    have K1 := Lib.hid (fun w h => seenIn_any s S B L k d q N w hg hk hN h)
    rw [← hxs] at K1
    have K2 := Lib.hid (fun A c w h => isPicture_any s.sz A N c xs w hN64 h)
    rw [MI] at K2
    have K3 := Lib.hid (fun A c w h => symsOfPicture_any s.sz A N c xs w hN64 h)
    have K4 := Lib.hid (fun w => symsOf_any s.mir w)
    have K5 := Lib.hid (fun w h => askSym_any s S B L k d q N xs w hg hk hN hN64 hxs MI hin h0 h)
    have K6 := Lib.hid (fun w h => askPic_any s S B L k d q N xs w hg hk hN hN64 hxs MI h)
    have K7 := Lib.hid (fun w h => askBead_any s S B L k d q N xs w hg hk hN hN64 hxs MI h)
    have hlen := hg.len
    have hz5 : ((s.bs.length : Int) != (s.sh.length : Int)) = false := by simp; omega
    obtain ⟨SZ, hSZ⟩ : ∃ SZ, SZ = s.sz.toNat := ⟨_, rfl⟩
    rw [← hSZ] at K6
    have HLX := Lib.hid LX
    have hz2 : ((SZ : Int) != s.sz) = false := by have := (inB_true hg.sz).1; simp; omega
    have hz3 : (s.sz != s.sz) = false := by simp
    obtain ⟨P, hP⟩ : ∃ P, P = symsP s.sz xs := ⟨_, rfl⟩
    obtain ⟨SL, hSL⟩ : ∃ SL, SL = symsL s.mir := ⟨_, rfl⟩
    rw [← hP] at K3 K5 HS hin h0
    rw [← hSL] at K4 HS
    have L8 : P.length ≤ 8 := by rw [hP, ← keptUp_8]; exact keptUp_len _ _ _
    have M8 : SL.length ≤ 8 := by rw [hSL]; exact symsUp_len _ _
    obtain ⟨np, hnp⟩ : ∃ np, np = P.length := ⟨_, rfl⟩
    obtain ⟨nl, hnl⟩ : ∃ nl, nl = SL.length := ⟨_, rfl⟩
    rw [← hnp] at K3 K5 L8 h0
    rw [← hnl] at K4 M8
    have HIN := Lib.hid hin
    have HHS := Lib.hid HS
    have HNP := Lib.hid hnp
    have HNL := Lib.hid hnl
    have hz1 : ((np : Int) != (np : Int)) = false := by simp
    clear hr hb hd hbig HD he hg hk hN hN64 hNq hxs HS MI hcol hin LX hP hSL hnp hnl hlen hSZ
    go_upto_region 4 with fail
    have ca := CA.new w1 #[.int .i64 s.sz, .float .f32 s.st, .float .f32 s.li.1, .float .f32 s.li.2.1, .float .f32 s.li.2.2, .slice S s.sh.length k, .int .i64 s.mir, .complex .f32 s.gr.1 s.gr.2, .float .f32 s.loss, .slice B s.bs.length d, .int .i64 s.tk, .slice L s.log.length q] 34; have fa := FA.new w1 #[.int .i64 s.sz, .float .f32 s.st, .float .f32 s.li.1, .float .f32 s.li.2.1, .float .f32 s.li.2.2, .slice S s.sh.length k, .int .i64 s.mir, .complex .f32 s.gr.1 s.gr.2, .float .f32 s.loss, .slice B s.bs.length d, .int .i64 s.tk, .slice L s.log.length q] 34; replace hW := hW.alloc (hW.size) (Obj.cells #[.int .i64 s.sz, .float .f32 s.st, .float .f32 s.li.1, .float .f32 s.li.2.1, .float .f32 s.li.2.2, .slice S s.sh.length k, .int .i64 s.mir, .complex .f32 s.gr.1 s.gr.2, .float .f32 s.loss, .slice B s.bs.length d, .int .i64 s.tk, .slice L s.log.length q] 34); replace own := own.alloc (own.size) (Obj.cells #[.int .i64 s.sz, .float .f32 s.st, .float .f32 s.li.1, .float .f32 s.li.2.1, .float .f32 s.li.2.2, .slice S s.sh.length k, .int .i64 s.mir, .complex .f32 s.gr.1 s.gr.2, .float .f32 s.loss, .slice B s.bs.length d, .int .i64 s.tk, .slice L s.log.length q] 34); obtain ⟨V1, hV1e⟩ : ∃ V1, V1 = w1.alloc (Obj.cells #[.int .i64 s.sz, .float .f32 s.st, .float .f32 s.li.1, .float .f32 s.li.2.1, .float .f32 s.li.2.2, .slice S s.sh.length k, .int .i64 s.mir, .complex .f32 s.gr.1 s.gr.2, .float .f32 s.loss, .slice B s.bs.length d, .int .i64 s.tk, .slice L s.log.length q] 34) := ⟨_, rfl⟩; have zV1 : V1.heap.size = w1.heap.size + 1 := (by rw [hV1e]; simp); rw [← hV1e] at ca fa hW own; rw [← hV1e]; clear hV1e; have la := ca.lt
    have cb := CA.new V1 #[.int .i64 e.k, .int .i64 e.n, .complex .f32 e.z.1 e.z.2, .complex .f32 e.s.1.1 e.s.1.2, .complex .f32 e.s.2.1.1 e.s.2.1.2, .complex .f32 e.s.2.2.1.1 e.s.2.2.1.2, .float .f32 e.s.2.2.2.1.1, .float .f32 e.s.2.2.2.1.2.1, .float .f32 e.s.2.2.2.1.2.2, .float .f32 e.s.2.2.2.2, .float .f32 e.c.1, .float .f32 e.c.2.1, .float .f32 e.c.2.2] 38; have fb := FA.new V1 #[.int .i64 e.k, .int .i64 e.n, .complex .f32 e.z.1 e.z.2, .complex .f32 e.s.1.1 e.s.1.2, .complex .f32 e.s.2.1.1 e.s.2.1.2, .complex .f32 e.s.2.2.1.1 e.s.2.2.1.2, .float .f32 e.s.2.2.2.1.1, .float .f32 e.s.2.2.2.1.2.1, .float .f32 e.s.2.2.2.1.2.2, .float .f32 e.s.2.2.2.2, .float .f32 e.c.1, .float .f32 e.c.2.1, .float .f32 e.c.2.2] 38; replace ca := ca.alloc (Obj.cells #[.int .i64 e.k, .int .i64 e.n, .complex .f32 e.z.1 e.z.2, .complex .f32 e.s.1.1 e.s.1.2, .complex .f32 e.s.2.1.1 e.s.2.1.2, .complex .f32 e.s.2.2.1.1 e.s.2.2.1.2, .float .f32 e.s.2.2.2.1.1, .float .f32 e.s.2.2.2.1.2.1, .float .f32 e.s.2.2.2.1.2.2, .float .f32 e.s.2.2.2.2, .float .f32 e.c.1, .float .f32 e.c.2.1, .float .f32 e.c.2.2] 38); replace fa := fa.alloc la (Obj.cells #[.int .i64 e.k, .int .i64 e.n, .complex .f32 e.z.1 e.z.2, .complex .f32 e.s.1.1 e.s.1.2, .complex .f32 e.s.2.1.1 e.s.2.1.2, .complex .f32 e.s.2.2.1.1 e.s.2.2.1.2, .float .f32 e.s.2.2.2.1.1, .float .f32 e.s.2.2.2.1.2.1, .float .f32 e.s.2.2.2.1.2.2, .float .f32 e.s.2.2.2.2, .float .f32 e.c.1, .float .f32 e.c.2.1, .float .f32 e.c.2.2] 38); replace hW := hW.alloc (hW.size) (Obj.cells #[.int .i64 e.k, .int .i64 e.n, .complex .f32 e.z.1 e.z.2, .complex .f32 e.s.1.1 e.s.1.2, .complex .f32 e.s.2.1.1 e.s.2.1.2, .complex .f32 e.s.2.2.1.1 e.s.2.2.1.2, .float .f32 e.s.2.2.2.1.1, .float .f32 e.s.2.2.2.1.2.1, .float .f32 e.s.2.2.2.1.2.2, .float .f32 e.s.2.2.2.2, .float .f32 e.c.1, .float .f32 e.c.2.1, .float .f32 e.c.2.2] 38); replace own := own.alloc (own.size) (Obj.cells #[.int .i64 e.k, .int .i64 e.n, .complex .f32 e.z.1 e.z.2, .complex .f32 e.s.1.1 e.s.1.2, .complex .f32 e.s.2.1.1 e.s.2.1.2, .complex .f32 e.s.2.2.1.1 e.s.2.2.1.2, .float .f32 e.s.2.2.2.1.1, .float .f32 e.s.2.2.2.1.2.1, .float .f32 e.s.2.2.2.1.2.2, .float .f32 e.s.2.2.2.2, .float .f32 e.c.1, .float .f32 e.c.2.1, .float .f32 e.c.2.2] 38); obtain ⟨V, hVe⟩ : ∃ V, V = V1.alloc (Obj.cells #[.int .i64 e.k, .int .i64 e.n, .complex .f32 e.z.1 e.z.2, .complex .f32 e.s.1.1 e.s.1.2, .complex .f32 e.s.2.1.1 e.s.2.1.2, .complex .f32 e.s.2.2.1.1 e.s.2.2.1.2, .float .f32 e.s.2.2.2.1.1, .float .f32 e.s.2.2.2.1.2.1, .float .f32 e.s.2.2.2.1.2.2, .float .f32 e.s.2.2.2.2, .float .f32 e.c.1, .float .f32 e.c.2.1, .float .f32 e.c.2.2] 38) := ⟨_, rfl⟩; have zV : V.heap.size = V1.heap.size + 1 := (by rw [hVe]; simp); rw [← hVe] at cb fb ca fa hW own; rw [← hVe]; clear hVe; have lb := cb.lt; replace la := ca.lt
    clear zV1 zV cb fb lb
    have a0 := ca 0 _ rfl; have a1 := ca 1 _ rfl; have a2 := ca 2 _ rfl; have a3 := ca 3 _ rfl; have a4 := ca 4 _ rfl; have a5 := ca 5 _ rfl; have a6 := ca 6 _ rfl; have a7 := ca 7 _ rfl; have a8 := ca 8 _ rfl; have a9 := ca 9 _ rfl; have a10 := ca 10 _ rfl; have a11 := ca 11 _ rfl
    have R := Lib.hid own.rd
    go_wp2_with fail
    (with_reducible refine (K1.out _ R.out).mono ?_)
    rintro r w2 ⟨⟨A5, c5, rfl, o5⟩, hb2⟩
    have rP := Rd.of_own colC_len HLX.out o5
    clear a0 a1 a2 a3 a4 a5 a6 a7 a8 a9 a10 a11 R K1 o5
    replace own := own.below hb2
    replace ca := ca.keep hb2; replace fa := fa.keep hb2 la; replace la := ca.lt; replace hW := then_ hW hb2
    clear hb2
    go_upto_region 5 with fail
    have cp := CA.new w2 #[.int .i64 s.sz, .slice A5 N c5] 47; have fp := FA.new w2 #[.int .i64 s.sz, .slice A5 N c5] 47; replace ca := ca.alloc (Obj.cells #[.int .i64 s.sz, .slice A5 N c5] 47); replace fa := fa.alloc la (Obj.cells #[.int .i64 s.sz, .slice A5 N c5] 47); replace hW := hW.alloc (hW.size) (Obj.cells #[.int .i64 s.sz, .slice A5 N c5] 47); replace own := own.alloc (own.size) (Obj.cells #[.int .i64 s.sz, .slice A5 N c5] 47); replace rP := rP.alloc (rP.size) (Obj.cells #[.int .i64 s.sz, .slice A5 N c5] 47); obtain ⟨Z5, hZ5e⟩ : ∃ Z5, Z5 = w2.alloc (Obj.cells #[.int .i64 s.sz, .slice A5 N c5] 47) := ⟨_, rfl⟩; have zZ5 : Z5.heap.size = w2.heap.size + 1 := (by rw [hZ5e]; simp); rw [← hZ5e] at cp fp ca fa hW own rP; rw [← hZ5e]; clear hZ5e; have lp := cp.lt; replace la := ca.lt
    clear zZ5
    have p0 := cp 0 _ rfl; have p1 := cp 1 _ rfl
    have RP := Lib.hid rP
    go_wp2_with fail
    (with_reducible refine (K2.out _ _ _ RP.out).mono ?_)
    rintro r w3 ⟨rfl, hb2⟩
    clear p0 p1 RP K2
    replace own := own.below hb2
    replace rP := rP.step hb2
    replace ca := ca.keep hb2; replace fa := fa.keep hb2 la; replace la := ca.lt; replace cp := cp.keep hb2; replace fp := fp.keep hb2 lp; replace lp := cp.lt; replace hW := then_ hW hb2
    clear hb2
    have a0 := ca 0 _ rfl; have a1 := ca 1 _ rfl; have a2 := ca 2 _ rfl; have a3 := ca 3 _ rfl; have a4 := ca 4 _ rfl; have a5 := ca 5 _ rfl; have a6 := ca 6 _ rfl; have a7 := ca 7 _ rfl; have a8 := ca 8 _ rfl; have a9 := ca 9 _ rfl; have a10 := ca 10 _ rfl; have a11 := ca 11 _ rfl
    have p0 := cp 0 _ rfl; have p1 := cp 1 _ rfl
    have RP := Lib.hid rP
    go_wp2_with fail
    (with_reducible refine (K3.out _ _ _ RP.out).mono ?_)
    rintro r w4 ⟨Bl, dl, rfl, ol, hb2⟩
    have rl := Rd.of_own symC_len HNP.out.symm ol
    clear a0 a1 a2 a3 a4 a5 a6 a7 a8 a9 a10 a11 p0 p1 RP K3 rP cp fp lp ol
    replace own := own.below hb2
    replace ca := ca.keep hb2; replace fa := fa.keep hb2 la; replace la := ca.lt; replace hW := then_ hW hb2
    clear hb2
    have a0 := ca 0 _ rfl; have a1 := ca 1 _ rfl; have a2 := ca 2 _ rfl; have a3 := ca 3 _ rfl; have a4 := ca 4 _ rfl; have a5 := ca 5 _ rfl; have a6 := ca 6 _ rfl; have a7 := ca 7 _ rfl; have a8 := ca 8 _ rfl; have a9 := ca 9 _ rfl; have a10 := ca 10 _ rfl; have a11 := ca 11 _ rfl
    go_wp2_with fail
    (with_reducible refine (K4.out _).mono ?_)
    rintro r w5 ⟨G, cG, rfl, om, hb2⟩
    have rm := Rd.of_own symC_len HNL.out.symm om
    clear a0 a1 a2 a3 a4 a5 a6 a7 a8 a9 a10 a11 K4 om
    replace own := own.below hb2
    replace rl := rl.step hb2
    replace ca := ca.keep hb2; replace fa := fa.keep hb2 la; replace la := ca.lt; replace hW := then_ hW hb2
    clear hb2
    have RL := Lib.hid rl
    have RM := Lib.hid rm
    have OW := Lib.hid own
    have CAA := Lib.hid ca
    have HW5 := Lib.hid hW
    clear rl rm own ca fa hW la
    go_wp2_with fail
    go_loopw [9] (fun i wr => ∃ j : Nat, j ≤ nl ∧ i = .int .i64 j ∧ Below w5.heap.size w5 wr) (fun i _ => nl - (intOf i).toNat)
    case atStart => exact ⟨0, Nat.zero_le _, rfl, Below.refl _ _⟩
    case round =>
      obtain ⟨j, hj, rfl, hBr⟩ := hrel
      by_cases hlt : j < nl
      · obtain ⟨bb, off, t, f, hGe, hbl, hx, x0, x1⟩ := (RM.out.step hBr).sym hlt
        have HI := HHS.out _ (List.mem_of_getElem? hx)
        have kh := fun G cc w h => has_any t f G np cc P w (by omega) h
        rw [HI] at kh
        have KH := Lib.hid kh
        have RLr := Lib.hid (RL.out.step hBr)
        have hki : (j : Int) < (nl : Int) := by omega
        have hk0 : (0 : Int) ≤ (j : Int) := by omega
        subst hGe
        clear kh HI hx
        go_wp2_with fail
        (with_reducible refine (KH.out _ _ _ RLr.out).mono ?_)
        rintro r w6 ⟨rfl, hb6⟩
        have hB6 := then_ hBr hb6
        go_wp2
        go_roundw
        case rel => exact ⟨j + 1, by omega, by go_num, hB6⟩
        case measure => simp [intOf]; omega
      · obtain rfl : j = nl := by omega
        have own := OW.out.below hBr
        have ca := CAA.out.keep hBr
        have rl := RL.out.step hBr
        have hW := then_ HW5.out hBr
        have la := ca.lt
        clear OW CAA RL HW5 RM hBr
        have a0 := ca 0 _ rfl; have a1 := ca 1 _ rfl; have a2 := ca 2 _ rfl; have a3 := ca 3 _ rfl; have a4 := ca 4 _ rfl; have a5 := ca 5 _ rfl; have a6 := ca 6 _ rfl; have a7 := ca 7 _ rfl; have a8 := ca 8 _ rfl; have a9 := ca 9 _ rfl; have a10 := ca 10 _ rfl; have a11 := ca 11 _ rfl
        have R := Lib.hid own.rd
        go_wp2_with fail
        (with_reducible refine (K5.out _ R.out).mono ?_)
        rintro r w6 ⟨⟨Ba, da, rfl, oa⟩, hb2⟩
        have ra := Rd.of_own bsC_len (by rw [List.length_map]; exact HNP.out.symm) oa
        clear a0 a1 a2 a3 a4 a5 a6 a7 a8 a9 a10 a11 R K5 oa
        replace own := own.below hb2
        replace rl := rl.step hb2
        replace ca := ca.keep hb2
        replace hW := then_ hW hb2
        replace la := ca.lt
        clear hb2
        have a0 := ca 0 _ rfl; have a1 := ca 1 _ rfl; have a2 := ca 2 _ rfl; have a3 := ca 3 _ rfl; have a4 := ca 4 _ rfl; have a5 := ca 5 _ rfl; have a6 := ca 6 _ rfl; have a7 := ca 7 _ rfl; have a8 := ca 8 _ rfl; have a9 := ca 9 _ rfl; have a10 := ca 10 _ rfl; have a11 := ca 11 _ rfl
        have R := Lib.hid own.rd
        go_wp2_with fail
        (with_reducible refine (K6.out _ R.out).mono ?_)
        rintro r w7 ⟨⟨Bp, dp, rfl⟩, hb2⟩
        clear a0 a1 a2 a3 a4 a5 a6 a7 a8 a9 a10 a11 R K6
        replace own := own.below hb2
        replace rl := rl.step hb2
        replace ra := ra.step hb2
        replace ca := ca.keep hb2
        replace hW := then_ hW hb2
        replace la := ca.lt
        clear hb2
        have a0 := ca 0 _ rfl; have a1 := ca 1 _ rfl; have a2 := ca 2 _ rfl; have a3 := ca 3 _ rfl; have a4 := ca 4 _ rfl; have a5 := ca 5 _ rfl; have a6 := ca 6 _ rfl; have a7 := ca 7 _ rfl; have a8 := ca 8 _ rfl; have a9 := ca 9 _ rfl; have a10 := ca 10 _ rfl; have a11 := ca 11 _ rfl
        have R := Lib.hid own.rd
        have RA := Lib.hid ra
        have RL := Lib.hid rl
        have hz4 : ((s.sh.length : Int) != (s.sh.length : Int)) = false := by simp
        clear own ra rl ca
        go_upto_region 16 with fail
        go_cut [82] (fun v wx => v = .bool false ∧ Below w7.heap.size w7 wx)
        case first =>
          refine wp_region_T (fun v => ∀ b o, b < w7.heap.size → v.cell? ⟨b, o, none⟩ = w7.cell? ⟨b, o, none⟩) (fun j => decide (100 ≤ j)) (by kernel_rfl) (fun _ _ _ => rfl) (fun hHeld => ?_)
          refine wpAnyT_take (i := 0) (v := .slice Ba np da) rfl (by kernel_rfl) (by kernel_rfl) (by kernel_rfl) (by kernel_rfl) (fun _ _ _ h => h) (Or.inl ⟨by rfl, (by intro wz hSz; (try dsimp only at hSz); go_simp)⟩) hHeld ?_; try simp only [Act.put, List.getElem_toArray, List.getElem_cons_zero, List.setIfInBounds_toArray, List.set_cons_zero, List.set_cons_succ]; refine wpAnyT_take (i := 1) (v := .int .i64 (np : Int)) rfl (by kernel_rfl) (by kernel_rfl) (by kernel_rfl) (by kernel_rfl) (fun _ _ _ h => h) (Or.inl ⟨by rfl, (by intro wz hSz; (try dsimp only at hSz); go_simp)⟩) hHeld ?_; try simp only [Act.put, List.getElem_toArray, List.getElem_cons_succ, List.getElem_cons_zero, List.setIfInBounds_toArray, List.set_cons_zero, List.set_cons_succ]; refine wpAnyT_take (i := 2) (v := .slice Bl np dl) rfl (by kernel_rfl) (by kernel_rfl) (by kernel_rfl) (by kernel_rfl) (fun _ _ _ h => h) (Or.inl ⟨by rfl, (by intro wz hSz; (try dsimp only at hSz); go_simp)⟩) hHeld ?_; try simp only [Act.put, List.getElem_toArray, List.getElem_cons_succ, List.getElem_cons_zero, List.setIfInBounds_toArray, List.set_cons_zero, List.set_cons_succ]; refine wpAnyT_take (i := 3) (v := .int .i64 (np : Int)) rfl (by kernel_rfl) (by kernel_rfl) (by kernel_rfl) (by kernel_rfl) (fun _ _ _ h => h) (Or.inl ⟨by rfl, (by intro wz hSz; (try dsimp only at hSz); go_simp)⟩) hHeld ?_; try simp only [Act.put, List.getElem_toArray, List.getElem_cons_succ, List.getElem_cons_zero, List.setIfInBounds_toArray, List.set_cons_zero, List.set_cons_succ]; refine wpAnyT_take (i := 4) (v := .bool false) rfl (by kernel_rfl) (by kernel_rfl) (by kernel_rfl) (by kernel_rfl) (fun _ _ _ h => h) (Or.inl ⟨by rfl, (by intro wz hSz; (try dsimp only at hSz); go_simp)⟩) hHeld ?_; try simp only [Act.put, List.getElem_toArray, List.getElem_cons_succ, List.getElem_cons_zero, List.setIfInBounds_toArray, List.set_cons_zero, List.set_cons_succ]; refine wpAnyT_take (i := 5) (v := .bool false) rfl (by kernel_rfl) (by kernel_rfl) (by kernel_rfl) (by kernel_rfl) (fun _ _ _ h => h) (Or.inl ⟨by rfl, (by intro wz hSz; (try dsimp only at hSz); go_simp)⟩) hHeld ?_; try simp only [Act.put, List.getElem_toArray, List.getElem_cons_succ, List.getElem_cons_zero, List.setIfInBounds_toArray, List.set_cons_zero, List.set_cons_succ]; refine wpAnyT_take (i := 6) (v := .slice Bp SZ dp) rfl (by kernel_rfl) (by kernel_rfl) (by kernel_rfl) (by kernel_rfl) (fun _ _ _ h => h) (Or.inl ⟨by rfl, (by intro wz hSz; (try dsimp only at hSz); go_simp)⟩) hHeld ?_; try simp only [Act.put, List.getElem_toArray, List.getElem_cons_succ, List.getElem_cons_zero, List.setIfInBounds_toArray, List.set_cons_zero, List.set_cons_succ]; refine wpAnyT_take (i := 7) (v := .int .i64 (SZ : Int)) rfl (by kernel_rfl) (by kernel_rfl) (by kernel_rfl) (by kernel_rfl) (fun _ _ _ h => h) (Or.inl ⟨by rfl, (by intro wz hSz; (try dsimp only at hSz); go_simp)⟩) hHeld ?_; try simp only [Act.put, List.getElem_toArray, List.getElem_cons_succ, List.getElem_cons_zero, List.setIfInBounds_toArray, List.set_cons_zero, List.set_cons_succ]; refine wpAnyT_take (i := 8) (v := .pointer (some ⟨w1.heap.size, 0, none⟩)) rfl (by kernel_rfl) (by kernel_rfl) (by kernel_rfl) (by kernel_rfl) (fun _ _ _ h => h) (Or.inl ⟨by rfl, (by intro wz hSz; (try dsimp only at hSz); go_simp)⟩) hHeld ?_; try simp only [Act.put, List.getElem_toArray, List.getElem_cons_succ, List.getElem_cons_zero, List.setIfInBounds_toArray, List.set_cons_zero, List.set_cons_succ]; refine wpAnyT_take (i := 9) (v := .int .i64 s.sz) rfl (by kernel_rfl) (by kernel_rfl) (by kernel_rfl) (by kernel_rfl) (fun _ _ _ h => h) (Or.inl ⟨by rfl, (by intro wz hSz; (try dsimp only at hSz); go_simp)⟩) hHeld ?_; try simp only [Act.put, List.getElem_toArray, List.getElem_cons_succ, List.getElem_cons_zero, List.setIfInBounds_toArray, List.set_cons_zero, List.set_cons_succ]; refine wpAnyT_take (i := 10) (v := .bool false) rfl (by kernel_rfl) (by kernel_rfl) (by kernel_rfl) (by kernel_rfl) (fun _ _ _ h => h) (Or.inl ⟨by rfl, (by intro wz hSz; (try dsimp only at hSz); go_simp)⟩) hHeld ?_; try simp only [Act.put, List.getElem_toArray, List.getElem_cons_succ, List.getElem_cons_zero, List.setIfInBounds_toArray, List.set_cons_zero, List.set_cons_succ]; refine wpAnyT_take (i := 11) (v := .bool false) rfl (by kernel_rfl) (by kernel_rfl) (by kernel_rfl) (by kernel_rfl) (fun _ _ _ h => h) (Or.inl ⟨by rfl, (by intro wz hSz; (try dsimp only at hSz); go_simp)⟩) hHeld ?_; try simp only [Act.put, List.getElem_toArray, List.getElem_cons_succ, List.getElem_cons_zero, List.setIfInBounds_toArray, List.set_cons_zero, List.set_cons_succ]; refine wpAnyT_take (i := 12) (v := .bool false) rfl (by kernel_rfl) (by kernel_rfl) (by kernel_rfl) (by kernel_rfl) (fun _ _ _ h => h) (Or.inl ⟨by rfl, (by intro wz hSz; (try dsimp only at hSz); go_simp)⟩) hHeld ?_; try simp only [Act.put, List.getElem_toArray, List.getElem_cons_succ, List.getElem_cons_zero, List.setIfInBounds_toArray, List.set_cons_zero, List.set_cons_succ]; refine wpAnyT_take (i := 13) (v := .agg #[.int .i64 s.sz, .float .f32 s.st, .float .f32 s.li.1, .float .f32 s.li.2.1, .float .f32 s.li.2.2, .slice S s.sh.length k, .int .i64 s.mir, .complex .f32 s.gr.1 s.gr.2, .float .f32 s.loss, .slice B s.bs.length d, .int .i64 s.tk, .slice L s.log.length q]) rfl (by kernel_rfl) (by kernel_rfl) (by kernel_rfl) (by kernel_rfl) (fun _ _ _ h => h) (Or.inl ⟨by rfl, (by intro wz hSz; (try dsimp only at hSz); go_simp)⟩) hHeld ?_; try simp only [Act.put, List.getElem_toArray, List.getElem_cons_succ, List.getElem_cons_zero, List.setIfInBounds_toArray, List.set_cons_zero, List.set_cons_succ]; refine wpAnyT_take (i := 16) (v := .pointer (some ⟨w1.heap.size, 5, none⟩)) rfl (by kernel_rfl) (by kernel_rfl) (by kernel_rfl) (by kernel_rfl) (fun _ _ _ h => h) (Or.inl ⟨by rfl, (by intro wz hSz; (try dsimp only at hSz); go_simp)⟩) hHeld ?_; try simp only [Act.put, List.getElem_toArray, List.getElem_cons_succ, List.getElem_cons_zero, List.setIfInBounds_toArray, List.set_cons_zero, List.set_cons_succ]; refine wpAnyT_take (i := 17) (v := .slice S s.sh.length k) rfl (by kernel_rfl) (by kernel_rfl) (by kernel_rfl) (by kernel_rfl) (fun _ _ _ h => h) (Or.inl ⟨by rfl, (by intro wz hSz; (try dsimp only at hSz); go_simp)⟩) hHeld ?_; try simp only [Act.put, List.getElem_toArray, List.getElem_cons_succ, List.getElem_cons_zero, List.setIfInBounds_toArray, List.set_cons_zero, List.set_cons_succ]; refine wpAnyT_take (i := 18) (v := .int .i64 (s.sh.length : Int)) rfl (by kernel_rfl) (by kernel_rfl) (by kernel_rfl) (by kernel_rfl) (fun _ _ _ h => h) (Or.inl ⟨by rfl, (by intro wz hSz; (try dsimp only at hSz); go_simp)⟩) hHeld ?_; try simp only [Act.put, List.getElem_toArray, List.getElem_cons_succ, List.getElem_cons_zero, List.setIfInBounds_toArray, List.set_cons_zero, List.set_cons_succ]
          refine wpAnyT_one (i := 14) (by kernel_rfl) rfl (fun K hK => ?_)
          go_simp
          go_at_call 22
          (with_reducible refine (K7.out _ (R.out.step ?_)).mono ?_)
          · (repeat (first | with_reducible assumption | exact Below.refl _ _ | (refine Below.setCell ?_ (by first | exact Nat.le_refl _ | (simp; done) | omega | (simp; omega)) _) | (refine below_drewN ?_ _) | (refine Below.drew ?_) | (refine Below.alloc ?_ (by first | exact Nat.le_refl _ | (simp; done) | omega | (simp; omega)) _) | (refine then_ ?_ (by with_reducible assumption)) | assumption | (refine then_ ?_ (by assumption))))
          rintro r w8 ⟨⟨Bb, db, rfl⟩, hb8⟩
          have hB8 : Below w7.heap.size w7 w8 := by (repeat (first | with_reducible assumption | exact Below.refl _ _ | (refine Below.setCell ?_ (by first | exact Nat.le_refl _ | (simp; done) | omega | (simp; omega)) _) | (refine below_drewN ?_ _) | (refine Below.drew ?_) | (refine Below.alloc ?_ (by first | exact Nat.le_refl _ | (simp; done) | omega | (simp; omega)) _) | (refine then_ ?_ (by with_reducible assumption)) | assumption | (refine then_ ?_ (by assumption))))
          go_wp2_with fail
          refine hK.out _ _ (fun _ b o h => hB8.cell (p := ⟨b, o, none⟩) h) (fun hH => ?_)
          have hHeld := hH rfl
          clear hK K hH
          try simp only [Act.put, List.setIfInBounds_toArray, List.set_cons_zero, List.set_cons_succ]
          refine wpAnyT_take (i := 15) (v := .int .i64 (s.bs.length : Int)) rfl (by kernel_rfl) (by kernel_rfl) (by kernel_rfl) (by kernel_rfl) (fun _ _ _ h => h) (Or.inl ⟨by rfl, (by intro wz hSz; (try dsimp only at hSz); go_simp)⟩) hHeld ?_; try simp only [Act.put, List.getElem_toArray, List.getElem_cons_succ, List.getElem_cons_zero, List.setIfInBounds_toArray, List.set_cons_zero, List.set_cons_succ]; refine wpAnyT_take (i := 19) (v := .bool false) rfl (by kernel_rfl) (by kernel_rfl) (by kernel_rfl) (by kernel_rfl) (fun _ _ _ h => h) (Or.inl ⟨by rfl, (by intro wz hSz; (try dsimp only at hSz); go_simp)⟩) hHeld ?_; try simp only [Act.put, List.getElem_toArray, List.getElem_cons_succ, List.getElem_cons_zero, List.setIfInBounds_toArray, List.set_cons_zero, List.set_cons_succ]; refine wpAnyT_take (i := 20) (v := .bool false) rfl (by kernel_rfl) (by kernel_rfl) (by kernel_rfl) (by kernel_rfl) (fun _ _ _ h => h) (Or.inl ⟨by rfl, (by intro wz hSz; (try dsimp only at hSz); go_simp)⟩) hHeld ?_; try simp only [Act.put, List.getElem_toArray, List.getElem_cons_succ, List.getElem_cons_zero, List.setIfInBounds_toArray, List.set_cons_zero, List.set_cons_succ]
          refine wpAnyT_end (by kernel_rfl) ?_ _
          go_wp2_with fail
          go_meet
          exact ⟨rfl, hB8⟩
        case rest =>
          obtain ⟨rfl, hwc⟩ := hcut
          have hWc := Lib.hid (then_ hW hwc)
          have RA2 := Lib.hid (RA.out.step hwc)
          have RL2 := Lib.hid (RL.out.step hwc)
          clear RA RL R hwc hW a0 a1 a2 a3 a4 a5 a6 a7 a8 a9 a10 a11 la K7
          go_wp2_with fail
          go_loopw [12] (fun i wr => ∃ j : Nat, j ≤ np ∧ i = .int .i64 j ∧ Below wc.heap.size wc wr) (fun i _ => np - (intOf i).toNat)
          case atStart => exact ⟨0, Nat.zero_le _, rfl, Below.refl _ _⟩
          case round =>
            obtain ⟨i, hj, rfl, hBr⟩ := hrel
            by_cases hlt : i < np
            · obtain ⟨b1, o1, y, hAe, hb1, hy, y0⟩ := (RA2.out.step hBr).str hlt
              obtain ⟨b2, o2, t, f, hLe, hb2, hx, x0, x1⟩ := (RL2.out.step hBr).sym hlt
              have hyy : y = symS (t, f) := by
                rw [List.getElem?_map, hx] at hy
                simp at hy
                exact hy.symm
              have ht := HIN.out _ (List.mem_of_getElem? hx)
              have kf := fun w => formatSym_yes t f w ht
              rw [← hyy] at kf
              have KF := Lib.hid kf
              have hki : (i : Int) < (np : Int) := by omega
              have hk0 : (0 : Int) ≤ (i : Int) := by omega
              subst hAe hLe
              clear kf ht hyy hx hy
              go_wp2_with fail
              go_region_held3 (fun w' => (∀ b o, b < wr.heap.size → w'.cell? ⟨b, o, none⟩ = wr.cell? ⟨b, o, none⟩) ∧ Below wr.heap.size wr w') (first | assumption | exact startS _ | exact stepS (by assumption) (by assumption)) (first | (go_at_call 23; (with_reducible refine (KF.out _).mono ?_); rintro r w8 ⟨rfl, hb8⟩))
              have hS := ‹_ ∧ Below wr.heap.size wr w8›
              have hB8 := then_ hBr hS.2
              clear hS
              go_wp2
              go_roundw
              case rel => exact ⟨i + 1, by omega, by go_num, hB8⟩
              case measure => simp [intOf]; omega
            · obtain rfl : i = np := by omega
              have hWe := then_ hWc.out hBr
              go_wp2
              go_ret
              exact ⟨rfl, hWe⟩

namespace fnSeen
theorem own : ownKnob Tryz.prog.godebug = none := by kernel_rfl
theorem laidOut : laidOutB Tryz.prog = true := by kernel_rfl
set_option maxRecDepth 100000 in
theorem lifted (os : Os) (started : os.Started) (H : Type) (enc : TypeId × Value → H) :
    ReturnsInHanded {} Tryz.checked os 4 .any (Rows.fnSeenSpec.pre6 enc Tryz.prog Tryz.f4 Rows.fnSeenRow.domain false) (Rows.fnSeenSpec.post enc Tryz.prog Tryz.f4 false true false false) := by
  refine returnsInHanded_of_change (C := Tryz.checked) own started (by kernel_rfl) Tryz.func4
    (ChangeSpec.witness6 (enc := enc) (C := Tryz.checked) false ⟨#[], #[.slice none 0 0], []⟩ 8 (by kernel_rfl) (by kernel_rfl) (by kernel_rfl) (by kernel_rfl)) ?_
  intro W base args ds gs before hval0 hW hcnd _
  have hval : ∀ (j : Nat) t v, Tryz.f4.params[j]? = some t → args[j]? = some v → Value.okWide Tryz.prog W .any base t v := hval0
  have hW' := hW
  obtain ⟨p, q, hA0, hV, rfl, hfz, hnd⟩ := hW
  have hA : DataW.TrodAll enc Tryz.prog W 0 (fun _ => true) true Tryz.f4.params.toList args.toList ds p := hA0
  rw [Tryz.params4] at hA hval
  obtain ⟨v0, vs0, d0, ds0, p0, q0, hargs, rfl, rfl, h0, r0⟩ := trodAll_cons hA
  obtain ⟨rfl, rfl, rfl⟩ := trodAll_nil r0
  obtain rfl : args = #[v0] := by cases args; simp_all
  obtain ⟨rfl, rfl⟩ := trodVars_none hV
  have k0 := h0
  have lt0 : ∀ x ∈ p0, x.block < W.heap.size := by obtain ⟨m, hm⟩ := k0; exact DataW.trod_lt m _ _ _ hm
  obtain ⟨A, n, c, bs, rfl, hn, ha, hbs⟩ := open_bytes Tryz.underlying22 Tryz.underlying5 (by kernel_rfl) (hval 0 22 v0 rfl rfl) h0
  clear hA0 hval0
  refine (lawSeen A n c bs W ha hbs).mono fun e W' ⟨he, bel⟩ => ?_
  subst he
  exact ⟨_, rfl, _, _, _, [], _, [], hW', trodAll_mk1 (shut_bool Tryz.underlying4 _), (trodAll_cons_mk (Below.trod laidOut (by kernel_rfl) (of_decide_eq_true (by kernel_rfl)) k0 bel lt0) trodAll_mk0), rfl, bel.frame _, fun h => by cases h⟩

theorem and_mk {a b : Bool} (h : a = true) (k : b = true) : (a && b) = true := by rw [h, k]; rfl
set_option maxHeartbeats 40000000 in
theorem facts : joinedFacts Tryz.pinned.checked.prog 4 Tryz.f4 Rows.fnSeenSpec Rows.fnSeenRow = true := by
  unfold joinedFacts
  repeat (with_reducible refine and_mk ?_ ?_)
  all_goals (as_aux_lemma => kernel_rfl)
theorem named_ : Tryz.pinned.checked.prog.funcNamed Rows.fnSeenRow.func = some 4 := by kernel_rfl
theorem over : Rows.fnSeenRow.holds Tryz.pinned (OpenSpec.ofChange Rows.fnSeenSpec) :=
  OpenClaim.holds_of_wide 4 Tryz.f4 rfl rfl rfl rfl rfl rfl rfl ⟨rfl, rfl, rfl, rfl, rfl⟩ rfl rfl rfl rfl rfl named_ Tryz.func4 facts
    (of_decide_eq_true (by kernel_rfl)) (by unfold Func.isWrapper; first | (rw [if_pos (by decide +kernel)]; kernel_rfl) | (rw [if_neg (by decide +kernel)]; exact ⟨rfl, rfl⟩))
    (fun os started H enc _ => lifted os started H enc)

theorem proved : Rows.FnSeenSaid := over
end fnSeen
end Go.Proofs.YthlphmojldbpkaaGreat
