
/- FnTaken: a picture taken between mirrors has all their symmetries, and is spread from its first cells. -/
import Derived.Test.YtchkcleenmoajaaM50
import Derived.Test.YtchkcleenmoajaaDrawTk
import Derived.Test.YtchkcleenmoajaaDrawSyms
import Derived.Test.YtchkcleenmoajaaM34
import Derived.Test.YtchkcleenmoajaaM27
import Derived.Test.YtchkcleenmoajaaSymP
import Derived.Test.YtchkcleenmoajaaMirP
import Derived.Test.YtchkcleenmoajaaM15
import Derived.Test.YtchkcleenmoajaaOpen
import Derived.ProofKit
import Derived.ChangeOld
import Derived.Deep.RegionHeld3
import Derived.Deep.RegionLaw
import Derived.Below
import Derived.Laws.Cover3
namespace Go.Proofs.Ytchkcleenmoajaa
open Go.ChangeShapes Go.WideShapes Go.ChangeAt Go.RowKit
attribute [local go_sem] run_store_float run_store_complex

set_option maxRecDepth 100000 in
set_option maxHeartbeats 8000000 in
theorem lawTaken (A : Option Addr) (m c : Nat) (bs : List Int) (w : World) (hr : Rd byteC 1 w w.heap.size A m bs) (hb : ∀ x ∈ bs, 0 ≤ x ∧ x ≤ 255) :
    Calls Try.prog 4 #[.slice A m c] w fun e w' => e = .returned (.bool true) ∧ Below w.heap.size w w' := by
  by_cases hbig : (4096 : Int) < m
  · have hd : decide ((4096 : Int) < m) = true := by simp [hbig]
    go_enter Try.func4, Try.ntmps4
    go_wp2_with (go_at_call 5; refine (bigS_any _ _ _ _).mono ?_; rintro e w' ⟨rfl, rfl⟩; simp only [hd])
    go_ret
    exact ⟨rfl, by (repeat (first | with_reducible assumption | exact Below.refl _ _ | (refine Below.setCell ?_ (by first | exact Nat.le_refl _ | (simp; done) | omega | (simp; omega)) _) | (refine below_drewN ?_ _) | (refine Below.drew ?_) | (refine Below.alloc ?_ (by first | exact Nat.le_refl _ | (simp; done) | omega | (simp; omega)) _) | (refine then_ ?_ (by with_reducible assumption)) | assumption | (refine then_ ?_ (by assumption))))⟩
  · have hd : decide ((4096 : Int) < m) = false := by simp [hbig]
    have hm : m ≤ 4096 := by omega
    go_enter Try.func4, Try.ntmps4
    go_wp2_with (go_at_call 5; refine (bigS_any _ _ _ _).mono ?_; rintro e w' ⟨rfl, rfl⟩; simp only [hd])
    refine (drawTaken_any A m c bs _ hm hr hb).mono ?_
    rintro e w1 ⟨K, q, ls, O, C, st, cr, cg, cl, hK, hq, hll, hok, hst, hcol, rfl, ho1, hb1⟩
    have TP := taken_p (q := q) hK (by omega) hst hok hcol
    obtain ⟨sp1, sp2⟩ := spread_pic TP.1 hK
    have SM := taken_spread hK hq TP
    have MI := taken_mir hK TP
    have HS := fun g hg => taken_has (g := g) hK TP hg
    have PI := pic_ok TP.1
    obtain ⟨n, hn⟩ : ∃ n, n = ls.length := ⟨_, rfl⟩
    obtain ⟨N, hN⟩ : ∃ N, N = (q + 1) * (q + 1) := ⟨_, rfl⟩
    obtain ⟨s, hs⟩ : ∃ s : Int, s = (q : Int) + 1 := ⟨_, rfl⟩
    have hNs : s * s = (N : Int) := by rw [hs, hN]; push_cast; rfl
    have s1 : 1 ≤ s := by omega
    have s2 : s ≤ 6 := by omega
    have hs8 : inB s 1 8 = true := by unfold inB; simp only [Bool.and_eq_true, decide_eq_true_eq]; omega
    have kin : inB (K : Int) 0 3 = true := by unfold inB; simp only [Bool.and_eq_true, decide_eq_true_eq]; omega
    have hN64 : N ≤ maxLen := by
      have b3 : (q + 1) * (q + 1) ≤ 6 * 6 := Nat.mul_le_mul (by omega) (by omega)
      unfold maxLen; omega
    obtain ⟨_, hstp, _⟩ := step_facts hst
    have kt := fun w h => takePicture_yes (K : Int) s st O n C ls cr cg cl N w kin hs8 hstp (by omega) hok hcol hNs h
    have lT := takeUp_len (K : Int) s st ls (cr, cg, cl) N
    rw [← hs, ← hN] at sp1 SM MI HS PI
    rw [← hn] at ho1 ⊢
    rw [← hs]
    clear TP sp2
    generalize takeUp (K : Int) s st ls (cr, cg, cl) N = T at kt lT sp1 SM MI HS PI
    have ly : (spreadUp (K : Int) s T T.length).length = N := by rw [spreadUp_len]; exact lT
    have ok1 : spreadOk (K : Int) s T = true := by unfold spreadOk; rw [kin, PI]; rfl
    have ki := fun A c w h => isPicture_any s A N c T w hN64 h
    rw [PI] at ki
    have kp := fun A c w h => symsOfPicture_any s A N c T w hN64 h
    have lP : (symsP s T).length ≤ 8 := by rw [← keptUp_8]; exact keptUp_len _ _ _
    generalize symsP s T = P at kp HS lP
    have ksp := fun A c w h => spreadPicture_any (K : Int) s A N c T w hN64 h
    rw [sp1, ok1] at ksp
    dsimp only at ksp
    generalize spreadUp (K : Int) s T T.length = Y at ksp SM ly
    rw [ly] at ksp
    have ksa := fun A B c d w ha hb => samePicture_any A B s s N N c d T Y w hN64 hN64 ha hb
    rw [SM] at ksa
    have km := fun A c w h => mirrorsOfPicture_any s A N c T w hN64 h
    generalize mirI s T = mi at km MI
    have kss := fun w => symsOf_any (K : Int) w
    have lL : (symsL (K : Int)).length ≤ 8 := symsUp_len _ _
    generalize symsL (K : Int) = L at kss HS lL
    obtain ⟨nl, hnl⟩ : ∃ nl, nl = L.length := ⟨_, rfl⟩
    obtain ⟨np, hnp⟩ : ∃ np, np = P.length := ⟨_, rfl⟩
    rw [← hnl] at kss lL
    rw [← hnp] at kp lP
    have HN := Lib.hid hn
    have LT := Lib.hid lT
    have LY := Lib.hid ly
    have LL := Lib.hid hnl
    have LP := Lib.hid hnp
    have KT := Lib.hid kt
    have KI := Lib.hid ki
    have KP := Lib.hid kp
    have KQ := Lib.hid ksp
    have KA := Lib.hid ksa
    have KM := Lib.hid km
    have KS := Lib.hid kss
    have HS := Lib.hid HS
    have O1 := Lib.hid ho1
    have hle := hb1.size
    clear kt ki kp ksp ksa km kss ho1 hn hok hst hcol hs hN hNs SM sp1 PI lT ly ok1 hnl hnp hstp kin hs8 hN64
    go_wp2_with fail
    obtain ⟨V1, hV1⟩ : ∃ V, V = w1.alloc (Obj.cells #[.float .f32 cr, .float .f32 cg, .float .f32 cl] 27) := ⟨_, rfl⟩
    have bV1 : Below w1.heap.size w1 V1 := by rw [hV1]; (repeat (first | with_reducible assumption | exact Below.refl _ _ | (refine Below.setCell ?_ (by first | exact Nat.le_refl _ | (simp; done) | omega | (simp; omega)) _) | (refine below_drewN ?_ _) | (refine Below.drew ?_) | (refine Below.alloc ?_ (by first | exact Nat.le_refl _ | (simp; done) | omega | (simp; omega)) _) | (refine then_ ?_ (by with_reducible assumption)) | assumption | (refine then_ ?_ (by assumption))))
    have rL := (Rd.of_own shC_len HN.out.symm O1.out).step bV1
    have B1 := then_ hb1 bV1
    rw [← hV1]
    clear hV1 bV1 hb1 O1
    refine (KT.out _ rL).mono ?_
    rintro e w3 ⟨⟨E3, d3, rfl, ho3⟩, hb3⟩
    have rT := Rd.of_own colC_len LT.out ho3
    have B2 := then_ B1 hb3
    clear ho3 hb3 B1 KT rL
    go_wp2_with fail
    obtain ⟨V4, hV4⟩ : ∃ V, V = w3.alloc (Obj.cells #[.int .i64 s, .slice E3 N d3] 40) := ⟨_, rfl⟩
    have bV4 : Below w3.heap.size w3 V4 := by rw [hV4]; (repeat (first | with_reducible assumption | exact Below.refl _ _ | (refine Below.setCell ?_ (by first | exact Nat.le_refl _ | (simp; done) | omega | (simp; omega)) _) | (refine below_drewN ?_ _) | (refine Below.drew ?_) | (refine Below.alloc ?_ (by first | exact Nat.le_refl _ | (simp; done) | omega | (simp; omega)) _) | (refine then_ ?_ (by with_reducible assumption)) | assumption | (refine then_ ?_ (by assumption))))
    have a0 : V4.cell? ⟨w3.heap.size, 0, none⟩ = some (.int .i64 s) := by rw [hV4]; simp [go_sem]
    have a1 : V4.cell? ⟨w3.heap.size, 1, none⟩ = some (.slice E3 N d3) := by rw [hV4]; simp [go_sem]
    rw [← hV4]
    have rT := rT.step bV4
    have B3 := then_ B2 bV4
    clear hV4 bV4 B2
    refine (KI.out _ _ _ rT).mono ?_
    rintro e w4 ⟨rfl, hb4⟩
    have a0 := keepC a0 hb4
    have a1 := keepC a1 hb4
    have rT := rT.step hb4
    have B4 := then_ B3 hb4
    clear hb4 B3 KI
    go_wp2_with fail
    refine (KS.out _).mono ?_
    rintro e w5 ⟨G, cG, rfl, ho5, hb5⟩
    have rS := Rd.of_own symC_len LL.out.symm ho5
    have a0 := keepC a0 hb5
    have a1 := keepC a1 hb5
    have rT := rT.step hb5
    have B5 := then_ B4 hb5
    clear hb5 B4 ho5 KS
    go_wp2_with fail
    go_loopw [11] (fun i wr => ∃ k : Nat, k ≤ nl ∧ i = .int .i64 k ∧ Below w5.heap.size w5 wr) (fun i _ => nl - (intOf i).toNat)
    case atStart => exact ⟨0, Nat.zero_le _, rfl, Below.refl _ _⟩
    case round =>
      obtain ⟨k, hkn, rfl, hw⟩ := hrel
      have k0 := keepC a0 hw
      have k1 := keepC a1 hw
      have lA : w3.heap.size < wr.heap.size := World.block_lt_of_cell? _ _ k0
      by_cases hlt : k < nl
      · obtain ⟨bb, off, t, f, rfl, hbl, hx, x0, x1⟩ := (rS.step hw).sym hlt
        have rW := rT.step hw
        have hki : (k : Int) < (nl : Int) := by omega
        have hk0 : (0 : Int) ≤ (k : Int) := by omega
        have HI := HS.out _ (List.mem_of_getElem? hx)
        have kh := fun G cc w h => has_any t f G np cc P w (by omega) h
        rw [HI] at kh
        have KH := Lib.hid kh
        clear kh HI hx
        go_wp2_with fail
        go_region_held3 (fun w' => (∀ b o, b < wr.heap.size → w'.cell? ⟨b, o, none⟩ = wr.cell? ⟨b, o, none⟩) ∧ Below wr.heap.size wr w') (first | assumption | exact startS _ | exact stepS (by assumption) (by assumption)) (first | (go_at_call 15; (with_reducible refine (KP.out _ _ _ (rW.step ?_)).mono ?_); (repeat (first | with_reducible assumption | exact Below.refl _ _ | (refine Below.setCell ?_ (by first | exact Nat.le_refl _ | (simp; done) | omega | (simp; omega)) _) | (refine below_drewN ?_ _) | (refine Below.drew ?_) | (refine Below.alloc ?_ (by first | exact Nat.le_refl _ | (simp; done) | omega | (simp; omega)) _) | (refine then_ ?_ (by with_reducible assumption)) | assumption | (refine then_ ?_ (by assumption)))); rintro e w6 ⟨B6, d6, rfl, ho6, hb6⟩; have r6 := Rd.of_own symC_len LP.out.symm ho6; clear ho6) | (go_at_call 14; (with_reducible refine (KH.out _ _ _ (r6.step ?_)).mono ?_); (repeat (first | with_reducible assumption | exact Below.refl _ _ | (refine Below.setCell ?_ (by first | exact Nat.le_refl _ | (simp; done) | omega | (simp; omega)) _) | (refine below_drewN ?_ _) | (refine Below.drew ?_) | (refine Below.alloc ?_ (by first | exact Nat.le_refl _ | (simp; done) | omega | (simp; omega)) _) | (refine then_ ?_ (by with_reducible assumption)) | assumption | (refine then_ ?_ (by assumption)))); rintro e w7 ⟨rfl, hb7⟩))
        have hS := ‹_ ∧ Below wr.heap.size wr w7›
        have hB := then_ hw hS.2
        clear hS
        go_wp2
        go_roundw
        case rel => exact ⟨k + 1, by omega, by go_num, hB⟩
        case measure => simp [intOf]; omega
      · obtain rfl : k = nl := by omega
        have rW := rT.step hw
        have B6 := then_ B5 hw
        clear hw B5 rT rS a0 a1
        go_wp2_with fail
        refine (KQ.out _ _ _ rW).mono ?_
        rintro e w6 ⟨E6, d6, rfl, ho6, hb6⟩
        have rY := Rd.of_own colC_len LY.out ho6
        have a0 := keepC k0 hb6
        have a1 := keepC k1 hb6
        have rT := rW.step hb6
        have B7 := then_ B6 hb6
        have lA : w3.heap.size < w6.heap.size := World.block_lt_of_cell? _ _ a0
        clear ho6 hb6 B6 KQ k0 k1 rW
        go_wp2_with fail
        obtain ⟨V5, hV5⟩ : ∃ V, V = w6.alloc (Obj.cells #[.int .i64 s, .slice E6 N d6] 40) := ⟨_, rfl⟩
        have bV5 : Below w6.heap.size w6 V5 := by rw [hV5]; (repeat (first | with_reducible assumption | exact Below.refl _ _ | (refine Below.setCell ?_ (by first | exact Nat.le_refl _ | (simp; done) | omega | (simp; omega)) _) | (refine below_drewN ?_ _) | (refine Below.drew ?_) | (refine Below.alloc ?_ (by first | exact Nat.le_refl _ | (simp; done) | omega | (simp; omega)) _) | (refine then_ ?_ (by with_reducible assumption)) | assumption | (refine then_ ?_ (by assumption))))
        have b0 : V5.cell? ⟨w6.heap.size, 0, none⟩ = some (.int .i64 s) := by rw [hV5]; simp [go_sem]
        have b1 : V5.cell? ⟨w6.heap.size, 1, none⟩ = some (.slice E6 N d6) := by rw [hV5]; simp [go_sem]
        rw [← hV5]
        have a0 := keepC a0 bV5
        have a1 := keepC a1 bV5
        have rT := rT.step bV5
        have rY := rY.step bV5
        have B8 := then_ B7 bV5
        have lA : w3.heap.size < V5.heap.size := World.block_lt_of_cell? _ _ a0
        have lB : w6.heap.size < V5.heap.size := World.block_lt_of_cell? _ _ b0
        have hge : decide ((K : Int) ≤ mi) = true := by simp [MI]
        clear hV5 bV5 B7
        refine (KA.out _ _ _ _ _ rT rY).mono ?_
        rintro e w7 ⟨rfl, hb7⟩
        have a0 := keepC a0 hb7
        have a1 := keepC a1 hb7
        have rT := rT.step hb7
        have B9 := then_ B8 hb7
        have lA : w3.heap.size < w7.heap.size := World.block_lt_of_cell? _ _ a0
        clear hb7 B8 b0 b1
        go_wp2_with fail
        refine (KM.out _ _ _ rT).mono ?_
        rintro e w8 ⟨rfl, hb8⟩
        have B10 := then_ B9 hb8
        clear hb8 B9
        go_wp2
        go_ret
        exact ⟨by simp [MI], by (repeat (first | with_reducible assumption | exact Below.refl _ _ | (refine Below.setCell ?_ (by first | exact Nat.le_refl _ | (simp; done) | omega | (simp; omega)) _) | (refine below_drewN ?_ _) | (refine Below.drew ?_) | (refine Below.alloc ?_ (by first | exact Nat.le_refl _ | (simp; done) | omega | (simp; omega)) _) | (refine then_ ?_ (by with_reducible assumption)) | assumption | (refine then_ ?_ (by assumption))))⟩

namespace fnTaken
theorem own : ownKnob Try.prog.godebug = none := by kernel_rfl
theorem laidOut : laidOutB Try.prog = true := by kernel_rfl
set_option maxRecDepth 100000 in
theorem lifted (os : Os) (started : os.Started) (H : Type) (enc : TypeId × Value → H) :
    ReturnsInHanded {} Try.checked os 4 .any (Rows.fnTakenSpec.pre6 enc Try.prog Try.f4 Rows.fnTakenRow.domain false) (Rows.fnTakenSpec.post enc Try.prog Try.f4 false true false false) := by
  refine returnsInHanded_of_change (C := Try.checked) own started (by kernel_rfl) Try.func4
    (ChangeSpec.witness6 (enc := enc) (C := Try.checked) false ⟨#[], #[.slice none 0 0], []⟩ 8 (by kernel_rfl) (by kernel_rfl) (by kernel_rfl) (by kernel_rfl)) ?_
  intro W base args ds gs before hval0 hW hcnd _
  have hval : ∀ (j : Nat) t v, Try.f4.params[j]? = some t → args[j]? = some v → Value.okWide Try.prog W .any base t v := hval0
  have hW' := hW
  obtain ⟨p, q, hA0, hV, rfl, hfz, hnd⟩ := hW
  have hA : DataW.TrodAll enc Try.prog W 0 (fun _ => true) true Try.f4.params.toList args.toList ds p := hA0
  rw [Try.params4] at hA hval
  obtain ⟨v0, vs0, d0, ds0, p0, q0, hargs, rfl, rfl, h0, r0⟩ := trodAll_cons hA
  obtain ⟨rfl, rfl, rfl⟩ := trodAll_nil r0
  obtain rfl : args = #[v0] := by cases args; simp_all
  obtain ⟨rfl, rfl⟩ := trodVars_none hV
  have k0 := h0
  have lt0 : ∀ x ∈ p0, x.block < W.heap.size := by obtain ⟨m, hm⟩ := k0; exact DataW.trod_lt m _ _ _ hm
  obtain ⟨A, n, c, bs, rfl, hn, ha, hbs⟩ := open_bytes Try.underlying22 Try.underlying5 (by kernel_rfl) (hval 0 22 v0 rfl rfl) h0
  clear hA0 hval0
  refine (lawTaken A n c bs W ha hbs).mono fun e W' ⟨he, bel⟩ => ?_
  subst he
  exact ⟨_, rfl, _, _, _, [], _, [], hW', trodAll_mk1 (shut_bool Try.underlying4 _), (trodAll_cons_mk (Below.trod laidOut (by kernel_rfl) (of_decide_eq_true (by kernel_rfl)) k0 bel lt0) trodAll_mk0), rfl, bel.frame _, fun h => by cases h⟩

theorem and_mk {a b : Bool} (h : a = true) (k : b = true) : (a && b) = true := by rw [h, k]; rfl
set_option maxHeartbeats 40000000 in
theorem facts : joinedFacts Try.pinned.checked.prog 4 Try.f4 Rows.fnTakenSpec Rows.fnTakenRow = true := by
  unfold joinedFacts
  repeat (with_reducible refine and_mk ?_ ?_)
  all_goals (as_aux_lemma => kernel_rfl)
theorem named_ : Try.pinned.checked.prog.funcNamed Rows.fnTakenRow.func = some 4 := by kernel_rfl
theorem over : Rows.fnTakenRow.holds Try.pinned (OpenSpec.ofChange Rows.fnTakenSpec) :=
  OpenClaim.holds_of_wide 4 Try.f4 rfl rfl rfl rfl rfl rfl rfl ⟨rfl, rfl, rfl, rfl, rfl⟩ rfl rfl rfl rfl rfl named_ Try.func4 facts
    (of_decide_eq_true (by kernel_rfl)) (by unfold Func.isWrapper; first | (rw [if_pos (by decide +kernel)]; kernel_rfl) | (rw [if_neg (by decide +kernel)]; exact ⟨rfl, rfl⟩))
    (fun os started H enc _ => lifted os started H enc)

theorem proved : Rows.FnTakenSaid := over
end fnTaken
end Go.Proofs.Ytchkcleenmoajaa
