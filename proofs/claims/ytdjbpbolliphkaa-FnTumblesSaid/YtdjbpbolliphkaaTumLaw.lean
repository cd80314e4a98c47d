
/- FnTumbles: ticks keep a tumble valid, and are cut anywhere. -/
import Derived.Test.YtdjbpbolliphkaaTumR
import Derived.Test.YtdjbpbolliphkaaDrawTum2
import Derived.Test.YtdjbpbolliphkaaOpen
import Derived.ProofKit
import Derived.ChangeOld
import Derived.Deep.RegionHeld3
import Derived.Below
import Derived.Laws.Cover3
namespace Go.Proofs.Ytdjbpbolliphkaa
open Go.ChangeShapes Go.WideShapes Go.ChangeAt Go.RowKit
attribute [local go_sem] run_store_float run_store_complex

set_option maxRecDepth 100000 in
set_option maxHeartbeats 8000000 in
theorem lawTumbles (A : Option Addr) (m c : Nat) (bs : List Int) (w : World) (hr : Rd byteC 1 w w.heap.size A m bs) (hb : ∀ x ∈ bs, 0 ≤ x ∧ x ≤ 255) :
    Calls Try.prog 4 #[.slice A m c] w fun e w' => e = .returned (.bool true) ∧ Below w.heap.size w w' := by
  by_cases hbig : (4096 : Int) < m
  · have hd : decide ((4096 : Int) < m) = true := by simp [hbig]
    go_enter Try.func4, Try.ntmps4
    go_wp2_with (go_at_call 8; refine (bigT_any _ _ _ _).mono ?_; rintro e w' ⟨rfl, rfl⟩; simp only [hd])
    go_ret
    exact ⟨rfl, by (repeat (first | with_reducible assumption | exact Below.refl _ _ | (refine Below.setCell ?_ (by first | exact Nat.le_refl _ | (simp; done) | omega | (simp; omega)) _) | (refine below_drewN ?_ _) | (refine Below.drew ?_) | (refine Below.alloc ?_ (by first | exact Nat.le_refl _ | (simp; done) | omega | (simp; omega)) _) | (refine then_ ?_ (by with_reducible assumption)) | assumption | (refine then_ ?_ (by assumption))))⟩
  · have hd : decide ((4096 : Int) < m) = false := by simp [hbig]
    have hm : m ≤ 4096 := by omega
    go_enter Try.func4, Try.ntmps4
    go_wp2_with (go_at_call 8; refine (bigT_any _ _ _ _).mono ?_; rintro e w' ⟨rfl, rfl⟩; simp only [hd])
    refine (drawTumble_any A m c bs _ hm hr hb).mono ?_
    rintro e w1 ⟨mir, gr, loss, xs, O, C, N, hN, hxl, ht, rfl, ho1, hb1⟩
    have HT := Lib.hid ht
    have r1 := Rd.of_own bdC_len rfl ho1
    obtain ⟨n, hn⟩ : ∃ n, n = xs.length := ⟨_, rfl⟩
    simp only [tumV]
    rw [← hn] at r1 hxl ⊢
    have HN := Lib.hid hn
    clear ht ho1 hn
    go_wp2_with fail
    obtain ⟨V1, hV1⟩ : ∃ V, V = w1.alloc (Obj.cells #[.int .i64 mir, .complex .f32 gr.1 gr.2, .float .f32 loss, .slice O n C] 37) := ⟨_, rfl⟩
    have bV1 : Below w1.heap.size w1 V1 := by rw [hV1]; (repeat (first | with_reducible assumption | exact Below.refl _ _ | (refine Below.setCell ?_ (by first | exact Nat.le_refl _ | (simp; done) | omega | (simp; omega)) _) | (refine below_drewN ?_ _) | (refine Below.drew ?_) | (refine Below.alloc ?_ (by first | exact Nat.le_refl _ | (simp; done) | omega | (simp; omega)) _) | (refine then_ ?_ (by with_reducible assumption)) | assumption | (refine then_ ?_ (by assumption))))
    have BM : BoxT V1 w1.heap.size mir gr loss (.slice O n C) := by rw [hV1]; exact boxT_new _ _ _ _ _ _
    rw [← hV1]
    have k3 : ((N : Int) / 3) = ((N / 3 : Nat) : Int) := by omega
    rw [k3]
    obtain ⟨k, hk⟩ : ∃ k, k = N / 3 := ⟨_, rfl⟩
    have hkN : k ≤ N := by omega
    rw [← hk]
    have SP := Lib.hid (runS_split (mir := mir) (gr := gr) (loss := loss) (bs := xs) hkN)
    have rM := r1.step bV1
    have B1 := then_ hb1 bV1
    clear hV1 bV1 hb1 r1 k3 hk
    have KN := Lib.hid (fun w h => runT_len mir gr loss n O C xs N w HN.out HT.out (by omega) h)
    have KK := Lib.hid (fun w h => runT_len mir gr loss n O C xs k w HN.out HT.out (by omega) h)
    refine (KN.out _ rM).mono ?_
    rintro e w2 ⟨B2, d2, rfl, r2, hb2⟩
    obtain ⟨xa, hxa⟩ : ∃ xa, xa = runB mir gr loss xs N := ⟨_, rfl⟩
    obtain ⟨ok, hok⟩ : ∃ ok, ok = runS mir gr loss xs N := ⟨_, rfl⟩
    rw [← hxa] at r2
    rw [← hok]
    have XA := Lib.hid hxa
    have OK := Lib.hid hok
    have BM := BM.keep hb2
    have rM := rM.step hb2
    have B2' := then_ B1 hb2
    simp only [tumV]
    clear hxa hok hb2 B1 KN
    obtain ⟨m0, m1, m2, m3⟩ := id BM
    have lM := BM.lt
    go_wp2_with fail
    obtain ⟨V2, hV2⟩ : ∃ V, V = w2.alloc (Obj.cells #[.int .i64 mir, .complex .f32 gr.1 gr.2, .float .f32 loss, .slice B2 n d2] 37) := ⟨_, rfl⟩
    have bV2 : Below w2.heap.size w2 V2 := by rw [hV2]; (repeat (first | with_reducible assumption | exact Below.refl _ _ | (refine Below.setCell ?_ (by first | exact Nat.le_refl _ | (simp; done) | omega | (simp; omega)) _) | (refine below_drewN ?_ _) | (refine Below.drew ?_) | (refine Below.alloc ?_ (by first | exact Nat.le_refl _ | (simp; done) | omega | (simp; omega)) _) | (refine then_ ?_ (by with_reducible assumption)) | assumption | (refine then_ ?_ (by assumption))))
    have BA : BoxT V2 w2.heap.size mir gr loss (.slice B2 n d2) := by rw [hV2]; exact boxT_new _ _ _ _ _ _
    rw [← hV2]
    have BM := BM.keep bV2
    have rM := rM.step bV2
    have rA := r2.step bV2
    have B2 := then_ B2' bV2
    clear hV2 bV2 r2 m0 m1 m2 m3 B2'
    refine (KK.out _ rM).mono ?_
    rintro e w3 ⟨B3, d3, rfl, r3, hb3⟩
    obtain ⟨xk, hxk⟩ : ∃ xk, xk = runB mir gr loss xs k := ⟨_, rfl⟩
    obtain ⟨one, hone⟩ : ∃ one, one = runS mir gr loss xs k := ⟨_, rfl⟩
    rw [← hxk] at r3
    rw [← hone]
    have XK := Lib.hid hxk
    have ONE := Lib.hid hone
    have TK := Lib.hid (show tumB mir gr loss xk = true by rw [hxk]; exact runB_tum HT.out k)
    have LK := Lib.hid (show n = xk.length by rw [hxk, runB_len]; exact HN.out)
    have BM := BM.keep hb3
    have BA := BA.keep hb3
    have rM := rM.step hb3
    have rA := rA.step hb3
    have B3' := then_ B2 hb3
    have KB := Lib.hid (fun w h => runT_len mir gr loss n B3 d3 xk (N - k) w LK.out TK.out (by omega) h)
    simp only [tumV]
    clear hxk hone hb3 B2 KK
    have lM := BM.lt
    have lA := BA.lt
    go_wp2_with fail
    obtain ⟨V3, hV3⟩ : ∃ V, V = w3.alloc (Obj.cells #[.int .i64 mir, .complex .f32 gr.1 gr.2, .float .f32 loss, .slice B3 n d3] 37) := ⟨_, rfl⟩
    have bV3 : Below w3.heap.size w3 V3 := by rw [hV3]; (repeat (first | with_reducible assumption | exact Below.refl _ _ | (refine Below.setCell ?_ (by first | exact Nat.le_refl _ | (simp; done) | omega | (simp; omega)) _) | (refine below_drewN ?_ _) | (refine Below.drew ?_) | (refine Below.alloc ?_ (by first | exact Nat.le_refl _ | (simp; done) | omega | (simp; omega)) _) | (refine then_ ?_ (by with_reducible assumption)) | assumption | (refine then_ ?_ (by assumption))))
    rw [← hV3]
    have BM := BM.keep bV3
    have BA := BA.keep bV3
    have rM := rM.step bV3
    have rA := rA.step bV3
    have rK := r3.step bV3
    have B3 := then_ B3' bV3
    clear hV3 bV3 r3 B3'
    have hsub : ((N : Int) - (k : Int)) = ((N - k : Nat) : Int) := by omega
    rw [hsub]
    obtain ⟨j, hj⟩ : ∃ j, j = N - k := ⟨_, rfl⟩
    rw [← hj] at KB ⊢
    have HJ := Lib.hid hj
    clear hj hsub
    refine (KB.out _ rK).mono ?_
    rintro e w4 ⟨B4, d4, rfl, r4, hb4⟩
    obtain ⟨xb, hxb⟩ : ∃ xb, xb = runB mir gr loss xk j := ⟨_, rfl⟩
    obtain ⟨two, htwo⟩ : ∃ two, two = runS mir gr loss xk j := ⟨_, rfl⟩
    rw [← hxb] at r4
    rw [← htwo]
    have XB := Lib.hid hxb
    have TWO := Lib.hid htwo
    have BM := BM.keep hb4
    have BA := BA.keep hb4
    have rM := rM.step hb4
    have rA := rA.step hb4
    have B4' := then_ B3 hb4
    simp only [tumV]
    clear hxb htwo hb4 B3 KB rK
    have F1 : one = false → ok = false := fun h => by rw [ONE.out] at h; rw [OK.out]; exact SP.out.1 h
    have F2 : one = true → ok = two ∧ (ok = true → xa = xb) := fun h => by
      rw [ONE.out] at h
      obtain ⟨a1, a2⟩ := SP.out.2 h
      rw [OK.out, TWO.out, XA.out, XB.out, XK.out, HJ.out]
      exact ⟨a1, a2⟩
    have F3 : ok = false → xa = xs := fun h => by rw [OK.out] at h; rw [XA.out]; exact runB_no h
    have F4 : tumB mir gr loss xa = true := by rw [XA.out]; exact runB_tum HT.out N
    have FF := Lib.hid (And.intro F1 (And.intro F2 (And.intro F3 F4)))
    clear F1 F2 F3 F4
    cases ok
    · -- not possible
      obtain ⟨s1, s2, s3⟩ := tum_same HT.out
      have KS := Lib.hid (fun w h1 h2 => sameTumble_yes mir gr gr loss loss B2 O n d2 C xs xs w hxl h1 h2 s1 s2 s3)
      rw [FF.out.2.2.1 rfl] at rA
      clear s1 s2 s3
      cases one
      · have lM := BM.lt
        have lA := BA.lt
        obtain ⟨m0, m1, m2, m3⟩ := id BM
        obtain ⟨a0, a1, a2, a3⟩ := id BA
        go_wp2_with fail
        refine (KS.out _ (rA.step ?_) (rM.step ?_)).mono ?_
        · (repeat (first | with_reducible assumption | exact Below.refl _ _ | (refine Below.setCell ?_ (by first | exact Nat.le_refl _ | (simp; done) | omega | (simp; omega)) _) | (refine below_drewN ?_ _) | (refine Below.drew ?_) | (refine Below.alloc ?_ (by first | exact Nat.le_refl _ | (simp; done) | omega | (simp; omega)) _) | (refine then_ ?_ (by with_reducible assumption)) | assumption | (refine then_ ?_ (by assumption))))
        · (repeat (first | with_reducible assumption | exact Below.refl _ _ | (refine Below.setCell ?_ (by first | exact Nat.le_refl _ | (simp; done) | omega | (simp; omega)) _) | (refine below_drewN ?_ _) | (refine Below.drew ?_) | (refine Below.alloc ?_ (by first | exact Nat.le_refl _ | (simp; done) | omega | (simp; omega)) _) | (refine then_ ?_ (by with_reducible assumption)) | assumption | (refine then_ ?_ (by assumption))))
        rintro e w5 ⟨rfl, hb5⟩
        have B5 : Below w.heap.size w w5 := then_ (B4'.alloc B4'.size _) hb5
        go_wp2
        go_ret
        exact ⟨rfl, B5⟩
      · obtain ⟨e1, _⟩ := FF.out.2.1 rfl
        subst e1
        have lM := BM.lt
        have lA := BA.lt
        obtain ⟨m0, m1, m2, m3⟩ := id BM
        obtain ⟨a0, a1, a2, a3⟩ := id BA
        go_wp2_with fail
        refine (KS.out _ (rA.step ?_) (rM.step ?_)).mono ?_
        · (repeat (first | with_reducible assumption | exact Below.refl _ _ | (refine Below.setCell ?_ (by first | exact Nat.le_refl _ | (simp; done) | omega | (simp; omega)) _) | (refine below_drewN ?_ _) | (refine Below.drew ?_) | (refine Below.alloc ?_ (by first | exact Nat.le_refl _ | (simp; done) | omega | (simp; omega)) _) | (refine then_ ?_ (by with_reducible assumption)) | assumption | (refine then_ ?_ (by assumption))))
        · (repeat (first | with_reducible assumption | exact Below.refl _ _ | (refine Below.setCell ?_ (by first | exact Nat.le_refl _ | (simp; done) | omega | (simp; omega)) _) | (refine below_drewN ?_ _) | (refine Below.drew ?_) | (refine Below.alloc ?_ (by first | exact Nat.le_refl _ | (simp; done) | omega | (simp; omega)) _) | (refine then_ ?_ (by with_reducible assumption)) | assumption | (refine then_ ?_ (by assumption))))
        rintro e w5 ⟨rfl, hb5⟩
        have B5 : Below w.heap.size w w5 := then_ (B4'.alloc B4'.size _) hb5
        go_wp2
        go_ret
        exact ⟨rfl, B5⟩
    · have e0 : one = true := by
        cases one
        · have := FF.out.1 rfl; cases this
        · rfl
      subst e0
      obtain ⟨e1, e2⟩ := FF.out.2.1 rfl
      subst e1
      have e2 := e2 rfl
      subst e2
      obtain ⟨s1, s2, s3⟩ := tum_same FF.out.2.2.2
      have KS := Lib.hid (fun w h1 h2 => sameTumble_yes mir gr gr loss loss B2 B4 n d2 d4 xa xa w hxl h1 h2 s1 s2 s3)
      have KT := Lib.hid (fun w h => isTumble_any mir gr loss B2 n d2 xa w hxl h)
      clear s1 s2 s3
      have lA := BA.lt
      obtain ⟨a0, a1, a2, a3⟩ := id BA
      go_wp2_with fail
      obtain ⟨V4, hV4⟩ : ∃ V, V = w4.alloc (Obj.cells #[.int .i64 mir, .complex .f32 gr.1 gr.2, .float .f32 loss, .slice B4 n d4] 37) := ⟨_, rfl⟩
      have bV4 : Below w4.heap.size w4 V4 := by rw [hV4]; (repeat (first | with_reducible assumption | exact Below.refl _ _ | (refine Below.setCell ?_ (by first | exact Nat.le_refl _ | (simp; done) | omega | (simp; omega)) _) | (refine below_drewN ?_ _) | (refine Below.drew ?_) | (refine Below.alloc ?_ (by first | exact Nat.le_refl _ | (simp; done) | omega | (simp; omega)) _) | (refine then_ ?_ (by with_reducible assumption)) | assumption | (refine then_ ?_ (by assumption))))
      rw [← hV4]
      have BA := BA.keep bV4
      have rA := rA.step bV4
      have r4 := r4.step bV4
      have B5' := then_ B4' bV4
      clear hV4 bV4 a0 a1 a2 a3 B4'
      refine (KS.out _ rA r4).mono ?_
      rintro e w5 ⟨rfl, hb5⟩
      have BA := BA.keep hb5
      have rA := rA.step hb5
      have B5 := then_ B5' hb5
      clear hb5 B5' KS
      have lA := BA.lt
      obtain ⟨a0, a1, a2, a3⟩ := id BA
      go_wp2_with fail
      refine (KT.out _ rA).mono ?_
      rw [FF.out.2.2.2]
      rintro e w6 ⟨rfl, hb6⟩
      have B6 := then_ B5 hb6
      go_wp2
      go_ret
      exact ⟨rfl, B6⟩

namespace fnTumbles
theorem own : ownKnob Try.prog.godebug = none := by kernel_rfl
theorem laidOut : laidOutB Try.prog = true := by kernel_rfl
set_option maxRecDepth 100000 in
theorem lifted (os : Os) (started : os.Started) (H : Type) (enc : TypeId × Value → H) :
    ReturnsInHanded {} Try.checked os 4 .any (Rows.fnTumblesSpec.pre6 enc Try.prog Try.f4 Rows.fnTumblesRow.domain false) (Rows.fnTumblesSpec.post enc Try.prog Try.f4 false true false false) := by
  refine returnsInHanded_of_change (C := Try.checked) own started (by kernel_rfl) Try.func4
    (ChangeSpec.witness6 (enc := enc) (C := Try.checked) false ⟨#[], #[.slice none 0 0], []⟩ 8 (by kernel_rfl) (by kernel_rfl) (by kernel_rfl) (by kernel_rfl)) ?_
  intro W base args ds gs before hval0 hW hcnd _
  have hval : ∀ (j : Nat) t v, Try.f4.params[j]? = some t → args[j]? = some v → Value.okWide Try.prog W .any base t v := hval0
  have hW' := hW
  obtain ⟨p, q, hA0, hV, rfl, hfz, hnd⟩ := hW
  have hA : DataW.TrodAll enc Try.prog W 0 (fun _ => true) true Try.f4.params.toList args.toList ds p := hA0
  rw [Try.params4] at hA hval
  obtain ⟨v0, vs0, d0, ds0, p0, q0, hargs, rfl, rfl, h0, r0⟩ := trodAll_cons hA
  obtain ⟨rfl, rfl, rfl⟩ := trodAll_nil r0
  obtain rfl : args = #[v0] := by cases args; simp_all
  obtain ⟨rfl, rfl⟩ := trodVars_none hV
  have k0 := h0
  have lt0 : ∀ x ∈ p0, x.block < W.heap.size := by obtain ⟨m, hm⟩ := k0; exact DataW.trod_lt m _ _ _ hm
  obtain ⟨A, n, c, bs, rfl, hn, ha, hbs⟩ := open_bytes Try.underlying22 Try.underlying5 (by kernel_rfl) (hval 0 22 v0 rfl rfl) h0
  clear hA0 hval0
  refine (lawTumbles A n c bs W ha hbs).mono fun e W' ⟨he, bel⟩ => ?_
  subst he
  exact ⟨_, rfl, _, _, _, [], _, [], hW', trodAll_mk1 (shut_bool Try.underlying4 _), (trodAll_cons_mk (Below.trod laidOut (by kernel_rfl) (of_decide_eq_true (by kernel_rfl)) k0 bel lt0) trodAll_mk0), rfl, bel.frame _, fun h => by cases h⟩

theorem and_mk {a b : Bool} (h : a = true) (k : b = true) : (a && b) = true := by rw [h, k]; rfl
set_option maxHeartbeats 40000000 in
theorem facts : joinedFacts Try.pinned.checked.prog 4 Try.f4 Rows.fnTumblesSpec Rows.fnTumblesRow = true := by
  unfold joinedFacts
  repeat (with_reducible refine and_mk ?_ ?_)
  all_goals (as_aux_lemma => kernel_rfl)
theorem named_ : Try.pinned.checked.prog.funcNamed Rows.fnTumblesRow.func = some 4 := by kernel_rfl
theorem over : Rows.fnTumblesRow.holds Try.pinned (OpenSpec.ofChange Rows.fnTumblesSpec) :=
  OpenClaim.holds_of_wide 4 Try.f4 rfl rfl rfl rfl rfl rfl rfl ⟨rfl, rfl, rfl, rfl, rfl⟩ rfl rfl rfl rfl rfl named_ Try.func4 facts
    (of_decide_eq_true (by kernel_rfl)) (by unfold Func.isWrapper; first | (rw [if_pos (by decide +kernel)]; kernel_rfl) | (rw [if_neg (by decide +kernel)]; exact ⟨rfl, rfl⟩))
    (fun os started H enc _ => lifted os started H enc)

theorem proved : Rows.FnTumblesSaid := over
end fnTumbles
end Go.Proofs.Ytdjbpbolliphkaa
