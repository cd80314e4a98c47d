
/- FnTurnedTumble: without mirrors a turned tumble goes on as the turned one, bit for bit. -/
import Derived.Test.YtdjbpbolliphkaaTumT
import Derived.Test.YtdjbpbolliphkaaDrawSyms
import Derived.Test.YtdjbpbolliphkaaDrawTum2
import Derived.Test.YtdjbpbolliphkaaOpen
import Derived.ProofKit
import Derived.ChangeOld
import Derived.Deep.RegionHeld3
import Derived.Below
import Derived.Laws.Cover3
namespace Go.Proofs.Ytdjbpbolliphkaa
open Go.ChangeShapes Go.WideShapes Go.ChangeAt Go.RowKit
attribute [local go_sem] run_store_float run_store_complex

set_option maxRecDepth 100000 in
set_option maxHeartbeats 8000000 in
theorem lawTurned (A : Option Addr) (m c : Nat) (bs : List Int) (w : World) (hr : Rd byteC 1 w w.heap.size A m bs) (hb : ∀ x ∈ bs, 0 ≤ x ∧ x ≤ 255) :
    Calls Try.prog 5 #[.slice A m c] w fun e w' => e = .returned (.bool true) ∧ Below w.heap.size w w' := by
  by_cases hbig : (4096 : Int) < m
  · have hd : decide ((4096 : Int) < m) = true := by simp [hbig]
    go_enter Try.func5, Try.ntmps5
    go_wp2_with (go_at_call 8; refine (bigT_any _ _ _ _).mono ?_; rintro e w' ⟨rfl, rfl⟩; simp only [hd])
    go_ret
    exact ⟨rfl, by (repeat (first | with_reducible assumption | exact Below.refl _ _ | (refine Below.setCell ?_ (by first | exact Nat.le_refl _ | (simp; done) | omega | (simp; omega)) _) | (refine below_drewN ?_ _) | (refine Below.drew ?_) | (refine Below.alloc ?_ (by first | exact Nat.le_refl _ | (simp; done) | omega | (simp; omega)) _) | (refine then_ ?_ (by with_reducible assumption)) | assumption | (refine then_ ?_ (by assumption))))⟩
  · have hd : decide ((4096 : Int) < m) = false := by simp [hbig]
    have hm : m ≤ 4096 := by omega
    go_enter Try.func5, Try.ntmps5
    go_wp2_with (go_at_call 8; refine (bigT_any _ _ _ _).mono ?_; rintro e w' ⟨rfl, rfl⟩; simp only [hd])
    refine (drawTumble_any A m c bs _ hm hr hb).mono ?_
    rintro e w1 ⟨mir, gr, loss, xs, O, C, N, hN, hxl, ht, rfl, ho1, hb1⟩
    have HT := Lib.hid (tum_zero ht)
    obtain ⟨n, hn⟩ : ∃ n, n = xs.length := ⟨_, rfl⟩
    simp only [tumV]
    rw [← hn] at ho1 hxl ⊢
    have HN := Lib.hid hn
    have O1 := Lib.hid ho1
    have OFM := Lib.hid (off_ge ho1 (Nat.le_refl _))
    have hle := hb1.size
    clear ht ho1 hn
    go_wp2_with fail
    obtain ⟨V1, hV1⟩ : ∃ V, V = w1.alloc (Obj.cells #[.int .i64 mir, .complex .f32 gr.1 gr.2, .float .f32 loss, .slice O n C] 37) := ⟨_, rfl⟩
    have bV1 : Below w1.heap.size w1 V1 := by rw [hV1]; (repeat (first | with_reducible assumption | exact Below.refl _ _ | (refine Below.setCell ?_ (by first | exact Nat.le_refl _ | (simp; done) | omega | (simp; omega)) _) | (refine below_drewN ?_ _) | (refine Below.drew ?_) | (refine Below.alloc ?_ (by first | exact Nat.le_refl _ | (simp; done) | omega | (simp; omega)) _) | (refine then_ ?_ (by with_reducible assumption)) | assumption | (refine then_ ?_ (by assumption))))
    have BM : BoxT V1 w1.heap.size mir gr loss (.slice O n C) := by rw [hV1]; exact boxT_new _ _ _ _ _ _
    have fM : V1.frozen? ⟨w1.heap.size, 0, none⟩ = false := by rw [hV1]; simp [go_sem]
    rw [← hV1]
    have O2 := Lib.hid (owns_below O1.out bV1)
    have B1 := then_ hb1 bV1
    have lM := BM.lt
    clear hV1 bV1 hb1 O1
    refine (drawSyms_any A m c bs _ hm (hr.step B1) hb).mono ?_
    rintro e w2 ⟨i, j, k, hi, hj, hk, rfl, hb2⟩
    have fM := (hb2.frozen (p := ⟨w1.heap.size, 0, none⟩) lM).trans fM
    have BM := BM.keep hb2
    have O3 := Lib.hid (owns_below O2.out hb2)
    have B2 := then_ B1 hb2
    have lM := BM.lt
    have hti := sym8_t i hi
    clear hb2 B1
    generalize sym8 i = gi at hti
    generalize sym8 j = gj
    generalize sym8 k = gk
    obtain ⟨t, f⟩ := gi
    obtain ⟨tj, fj⟩ := gj
    obtain ⟨tk, fk⟩ := gk
    dsimp only at hti ⊢
    clear hi hj hk i j k
    go_upto_region 5 with fail
    obtain ⟨V2, hV2⟩ : ∃ V, V = ((w2.alloc (Obj.cells #[.int .i64 t, .bool f] 28)).alloc (Obj.cells #[.int .i64 tj, .bool fj] 28)).alloc (Obj.cells #[.int .i64 tk, .bool fk] 28) := ⟨_, rfl⟩
    have bV2 : Below w2.heap.size w2 V2 := by rw [hV2]; (repeat (first | with_reducible assumption | exact Below.refl _ _ | (refine Below.setCell ?_ (by first | exact Nat.le_refl _ | (simp; done) | omega | (simp; omega)) _) | (refine below_drewN ?_ _) | (refine Below.drew ?_) | (refine Below.alloc ?_ (by first | exact Nat.le_refl _ | (simp; done) | omega | (simp; omega)) _) | (refine then_ ?_ (by with_reducible assumption)) | assumption | (refine then_ ?_ (by assumption))))
    have SB : V2.cell? ⟨w2.heap.size, 0, none⟩ = some (.int .i64 t) ∧ V2.cell? ⟨w2.heap.size, 1, none⟩ = some (.bool f) := by rw [hV2]; exact ⟨by simp [go_sem], by simp [go_sem]⟩
    rw [← hV2]
    have fM := (bV2.frozen (p := ⟨w1.heap.size, 0, none⟩) lM).trans fM
    have BM := BM.keep bV2
    have O4 := Lib.hid (owns_below O3.out bV2)
    have B3 := then_ B2 bV2
    have lM := BM.lt
    obtain ⟨m0, m1, m2, m3⟩ := id BM
    have lS : w2.heap.size < V2.heap.size := World.block_lt_of_cell? _ _ SB.1
    have neS : ¬ w1.heap.size = w2.heap.size := by omega
    have neS' : ¬ w2.heap.size = w1.heap.size := by omega
    clear hV2 bV2 B2 O2 O3
    go_upto_region 6 with fail
    obtain ⟨V3, hV3⟩ : ∃ V, V = V2.setCell ⟨w1.heap.size, 0, none⟩ (.int .i64 0) := ⟨_, rfl⟩
    have BM : BoxT V3 w1.heap.size 0 gr loss (.slice O n C) := by rw [hV3]; exact ⟨by simp [go_sem, m0], by simp [go_sem, m1], by simp [go_sem, m2], by simp [go_sem, m3]⟩
    have B4 : Below w.heap.size w V3 := by rw [hV3]; exact B3.setCell hle _
    have S0 : V3.cell? ⟨w2.heap.size, 0, none⟩ = some (.int .i64 t) := by rw [hV3]; simp [go_sem, SB.1, neS]
    have S1 : V3.cell? ⟨w2.heap.size, 1, none⟩ = some (.bool f) := by rw [hV3]; simp [go_sem, SB.2, neS]
    have rM : Rd bdC 2 V3 V3.heap.size O n xs := by rw [hV3]; exact Rd.of_own bdC_len HN.out.symm (own_set O4.out OFM.out _ _)
    rw [← hV3]
    have KS := Lib.hid (fun w h => turnTumble_yes 0 gr loss t f O n C xs w hxl hti HT.out (tum_turn HT.out) h)
    clear hV3 B3 O4 m0 m1 m2 m3 fM SB
    obtain ⟨m0, m1, m2, m3⟩ := id BM
    have lM := BM.lt
    have lS : w2.heap.size < V3.heap.size := World.block_lt_of_cell? _ _ S0
    go_wp2_with fail
    refine (KS.out _ rM).mono ?_
    rintro e w3 ⟨⟨B3, d3, rfl, ho3⟩, hb3⟩
    obtain ⟨gt, hgt⟩ : ∃ gt, gt = actP t f gr.1 gr.2 := ⟨_, rfl⟩
    obtain ⟨xt, hxt⟩ : ∃ xt, xt = turnL t f xs := ⟨_, rfl⟩
    rw [← hxt] at ho3
    rw [← hgt]
    have GT := Lib.hid hgt
    have XT := Lib.hid hxt
    have LT := Lib.hid (show n = xt.length by rw [hxt]; unfold turnL; rw [List.length_map]; exact HN.out)
    have TT := Lib.hid (show tumB 0 gt loss xt = true by rw [hgt, hxt]; exact tum_turn HT.out)
    have r3 := Rd.of_own bdC_len LT.out.symm ho3
    have TD := Lib.hid (turned (f := f) hti HT.out N)
    rw [← hgt, ← hxt] at TD
    have BM := BM.keep hb3
    have rM := rM.step hb3
    have S0 := keepC S0 hb3
    have S1 := keepC S1 hb3
    have B5 := then_ B4 hb3
    simp only [tumV]
    clear hgt hxt ho3 hb3 B4 KS m0 m1 m2 m3
    obtain ⟨m0, m1, m2, m3⟩ := id BM
    have lM := BM.lt
    have lS : w2.heap.size < w3.heap.size := World.block_lt_of_cell? _ _ S0
    have KX := Lib.hid (fun w h => runT_len 0 gt loss n B3 d3 xt N w LT.out TT.out (by omega) h)
    have KY := Lib.hid (fun w h => runT_len 0 gr loss n O C xs N w HN.out HT.out (by omega) h)
    go_wp2_with fail
    obtain ⟨V4, hV4⟩ : ∃ V, V = w3.alloc (Obj.cells #[.int .i64 0, .complex .f32 gt.1 gt.2, .float .f32 loss, .slice B3 n d3] 37) := ⟨_, rfl⟩
    have bV4 : Below w3.heap.size w3 V4 := by rw [hV4]; (repeat (first | with_reducible assumption | exact Below.refl _ _ | (refine Below.setCell ?_ (by first | exact Nat.le_refl _ | (simp; done) | omega | (simp; omega)) _) | (refine below_drewN ?_ _) | (refine Below.drew ?_) | (refine Below.alloc ?_ (by first | exact Nat.le_refl _ | (simp; done) | omega | (simp; omega)) _) | (refine then_ ?_ (by with_reducible assumption)) | assumption | (refine then_ ?_ (by assumption))))
    rw [← hV4]
    have BM := BM.keep bV4
    have rM := rM.step bV4
    have r3 := r3.step bV4
    have S0 := keepC S0 bV4
    have S1 := keepC S1 bV4
    have B6 := then_ B5 bV4
    clear hV4 bV4 m0 m1 m2 m3 B5
    refine (KX.out _ r3).mono ?_
    rintro e w4 ⟨B4, d4, rfl, r4, hb4⟩
    obtain ⟨xx, hxx⟩ : ∃ xx, xx = runB 0 gt loss xt N := ⟨_, rfl⟩
    rw [← hxx] at r4 TD
    obtain ⟨ok, hok⟩ : ∃ ok, ok = runS 0 gt loss xt N := ⟨_, rfl⟩
    rw [← hok] at TD ⊢
    have XX := Lib.hid hxx
    have TX := Lib.hid (show tumB 0 gt loss xx = true by rw [hxx]; exact runB_tum TT.out N)
    have BM := BM.keep hb4
    have rM := rM.step hb4
    have S0 := keepC S0 hb4
    have S1 := keepC S1 hb4
    have B7 := then_ B6 hb4
    simp only [tumV]
    clear hxx hok hb4 KX r3 B6
    obtain ⟨m0, m1, m2, m3⟩ := id BM
    have lM := BM.lt
    have lS : w2.heap.size < w4.heap.size := World.block_lt_of_cell? _ _ S0
    go_wp2_with fail
    obtain ⟨V5, hV5⟩ : ∃ V, V = w4.alloc (Obj.cells #[.int .i64 0, .complex .f32 gt.1 gt.2, .float .f32 loss, .slice B4 n d4] 37) := ⟨_, rfl⟩
    have bV5 : Below w4.heap.size w4 V5 := by rw [hV5]; (repeat (first | with_reducible assumption | exact Below.refl _ _ | (refine Below.setCell ?_ (by first | exact Nat.le_refl _ | (simp; done) | omega | (simp; omega)) _) | (refine below_drewN ?_ _) | (refine Below.drew ?_) | (refine Below.alloc ?_ (by first | exact Nat.le_refl _ | (simp; done) | omega | (simp; omega)) _) | (refine then_ ?_ (by with_reducible assumption)) | assumption | (refine then_ ?_ (by assumption))))
    have BX : BoxT V5 w4.heap.size 0 gt loss (.slice B4 n d4) := by rw [hV5]; exact boxT_new _ _ _ _ _ _
    rw [← hV5]
    have rM := rM.step bV5
    have r4 := r4.step bV5
    have S0 := keepC S0 bV5
    have S1 := keepC S1 bV5
    have B8 := then_ B7 bV5
    clear hV5 bV5 m0 m1 m2 m3 B7
    refine (KY.out _ rM).mono ?_
    rintro e w5 ⟨B5, d5, rfl, r5, hb5⟩
    obtain ⟨xy, hxy⟩ : ∃ xy, xy = runB 0 gr loss xs N := ⟨_, rfl⟩
    rw [← hxy] at r5 TD
    have TY := Lib.hid (show tumB 0 gr loss xy = true by rw [hxy]; exact runB_tum HT.out N)
    have LY := Lib.hid (show n = xy.length by rw [hxy, runB_len]; exact HN.out)
    obtain ⟨is, his⟩ : ∃ ok, ok = runS 0 gr loss xs N := ⟨_, rfl⟩
    rw [← his] at TD ⊢
    have e1 := TD.out.1
    subst e1
    have TD2 := Lib.hid TD.out.2
    have BX := BX.keep hb5
    have r4 := r4.step hb5
    have S0 := keepC S0 hb5
    have S1 := keepC S1 hb5
    have B9 := then_ B8 hb5
    simp only [tumV]
    clear hxy his hb5 KY rM B8 TD BM
    have KZ := Lib.hid (fun w h => turnTumble_yes 0 gr loss t f B5 n d5 xy w hxl hti TY.out (tum_turn TY.out) h)
    rw [← GT.out] at KZ
    have lX := BX.lt
    have lS : w2.heap.size < w5.heap.size := World.block_lt_of_cell? _ _ S0
    go_wp2_with fail
    obtain ⟨V6, hV6⟩ : ∃ V, V = w5.alloc (Obj.cells #[.int .i64 0, .complex .f32 gr.1 gr.2, .float .f32 loss, .slice B5 n d5] 37) := ⟨_, rfl⟩
    have bV6 : Below w5.heap.size w5 V6 := by rw [hV6]; (repeat (first | with_reducible assumption | exact Below.refl _ _ | (refine Below.setCell ?_ (by first | exact Nat.le_refl _ | (simp; done) | omega | (simp; omega)) _) | (refine below_drewN ?_ _) | (refine Below.drew ?_) | (refine Below.alloc ?_ (by first | exact Nat.le_refl _ | (simp; done) | omega | (simp; omega)) _) | (refine then_ ?_ (by with_reducible assumption)) | assumption | (refine then_ ?_ (by assumption))))
    rw [← hV6]
    have BX := BX.keep bV6
    have r4 := r4.step bV6
    have r5 := r5.step bV6
    have B10 := then_ B9 bV6
    clear hV6 bV6 B9 S0 S1
    refine (KZ.out _ r5).mono ?_
    rintro e w6 ⟨⟨B6, d6, rfl, ho6⟩, hb6⟩
    have LZ := Lib.hid (show (turnL t f xy).length = n by unfold turnL; rw [List.length_map]; exact LY.out.symm)
    have r6 := Rd.of_own bdC_len LZ.out ho6
    obtain ⟨xz, hxz⟩ : ∃ xz, xz = turnL t f xy := ⟨_, rfl⟩
    rw [← hxz] at r6 TD2
    have TZ := Lib.hid (show tumB 0 gt loss xz = true by rw [hxz, GT.out]; exact tum_turn TY.out)
    have BX := BX.keep hb6
    have r4 := r4.step hb6
    have B11 := then_ B10 hb6
    simp only [tumV]
    clear hxz ho6 hb6 B10 KZ r5
    have lX := BX.lt
    obtain ⟨x0, x1, x2, x3⟩ := id BX
    cases ok
    · go_wp2
      go_ret
      exact ⟨rfl, by (repeat (first | with_reducible assumption | exact Below.refl _ _ | (refine Below.setCell ?_ (by first | exact Nat.le_refl _ | (simp; done) | omega | (simp; omega)) _) | (refine below_drewN ?_ _) | (refine Below.drew ?_) | (refine Below.alloc ?_ (by first | exact Nat.le_refl _ | (simp; done) | omega | (simp; omega)) _) | (refine then_ ?_ (by with_reducible assumption)) | assumption | (refine then_ ?_ (by assumption))))⟩
    · have s3 := TD2.out rfl
      obtain ⟨s1, s2, _⟩ := tum_same TZ.out
      have KS := Lib.hid (fun w h1 h2 => sameTumble_yes 0 gt gt loss loss B4 B6 n d4 d6 xx xz w hxl h1 h2 s1 s2 s3)
      clear s1 s2 s3
      go_wp2_with fail
      refine (KS.out _ (r4.step ?_) (r6.step ?_)).mono ?_
      · (repeat (first | with_reducible assumption | exact Below.refl _ _ | (refine Below.setCell ?_ (by first | exact Nat.le_refl _ | (simp; done) | omega | (simp; omega)) _) | (refine below_drewN ?_ _) | (refine Below.drew ?_) | (refine Below.alloc ?_ (by first | exact Nat.le_refl _ | (simp; done) | omega | (simp; omega)) _) | (refine then_ ?_ (by with_reducible assumption)) | assumption | (refine then_ ?_ (by assumption))))
      · (repeat (first | with_reducible assumption | exact Below.refl _ _ | (refine Below.setCell ?_ (by first | exact Nat.le_refl _ | (simp; done) | omega | (simp; omega)) _) | (refine below_drewN ?_ _) | (refine Below.drew ?_) | (refine Below.alloc ?_ (by first | exact Nat.le_refl _ | (simp; done) | omega | (simp; omega)) _) | (refine then_ ?_ (by with_reducible assumption)) | assumption | (refine then_ ?_ (by assumption))))
      rintro e w7 ⟨rfl, hb7⟩
      have B12 : Below w.heap.size w w7 := then_ (B11.alloc B11.size _) hb7
      go_wp2
      go_ret
      exact ⟨rfl, B12⟩

namespace fnTurnedTumble
theorem own : ownKnob Try.prog.godebug = none := by kernel_rfl
theorem laidOut : laidOutB Try.prog = true := by kernel_rfl
set_option maxRecDepth 100000 in
theorem lifted (os : Os) (started : os.Started) (H : Type) (enc : TypeId × Value → H) :
    ReturnsInHanded {} Try.checked os 5 .any (Rows.fnTurnedTumbleSpec.pre6 enc Try.prog Try.f5 Rows.fnTurnedTumbleRow.domain false) (Rows.fnTurnedTumbleSpec.post enc Try.prog Try.f5 false true false false) := by
  refine returnsInHanded_of_change (C := Try.checked) own started (by kernel_rfl) Try.func5
    (ChangeSpec.witness6 (enc := enc) (C := Try.checked) false ⟨#[], #[.slice none 0 0], []⟩ 8 (by kernel_rfl) (by kernel_rfl) (by kernel_rfl) (by kernel_rfl)) ?_
  intro W base args ds gs before hval0 hW hcnd _
  have hval : ∀ (j : Nat) t v, Try.f5.params[j]? = some t → args[j]? = some v → Value.okWide Try.prog W .any base t v := hval0
  have hW' := hW
  obtain ⟨p, q, hA0, hV, rfl, hfz, hnd⟩ := hW
  have hA : DataW.TrodAll enc Try.prog W 0 (fun _ => true) true Try.f5.params.toList args.toList ds p := hA0
  rw [Try.params5] at hA hval
  obtain ⟨v0, vs0, d0, ds0, p0, q0, hargs, rfl, rfl, h0, r0⟩ := trodAll_cons hA
  obtain ⟨rfl, rfl, rfl⟩ := trodAll_nil r0
  obtain rfl : args = #[v0] := by cases args; simp_all
  obtain ⟨rfl, rfl⟩ := trodVars_none hV
  have k0 := h0
  have lt0 : ∀ x ∈ p0, x.block < W.heap.size := by obtain ⟨m, hm⟩ := k0; exact DataW.trod_lt m _ _ _ hm
  obtain ⟨A, n, c, bs, rfl, hn, ha, hbs⟩ := open_bytes Try.underlying22 Try.underlying5 (by kernel_rfl) (hval 0 22 v0 rfl rfl) h0
  clear hA0 hval0
  refine (lawTurned A n c bs W ha hbs).mono fun e W' ⟨he, bel⟩ => ?_
  subst he
  exact ⟨_, rfl, _, _, _, [], _, [], hW', trodAll_mk1 (shut_bool Try.underlying4 _), (trodAll_cons_mk (Below.trod laidOut (by kernel_rfl) (of_decide_eq_true (by kernel_rfl)) k0 bel lt0) trodAll_mk0), rfl, bel.frame _, fun h => by cases h⟩

theorem and_mk {a b : Bool} (h : a = true) (k : b = true) : (a && b) = true := by rw [h, k]; rfl
set_option maxHeartbeats 40000000 in
theorem facts : joinedFacts Try.pinned.checked.prog 5 Try.f5 Rows.fnTurnedTumbleSpec Rows.fnTurnedTumbleRow = true := by
  unfold joinedFacts
  repeat (with_reducible refine and_mk ?_ ?_)
  all_goals (as_aux_lemma => kernel_rfl)
theorem named_ : Try.pinned.checked.prog.funcNamed Rows.fnTurnedTumbleRow.func = some 5 := by kernel_rfl
theorem over : Rows.fnTurnedTumbleRow.holds Try.pinned (OpenSpec.ofChange Rows.fnTurnedTumbleSpec) :=
  OpenClaim.holds_of_wide 5 Try.f5 rfl rfl rfl rfl rfl rfl rfl ⟨rfl, rfl, rfl, rfl, rfl⟩ rfl rfl rfl rfl rfl named_ Try.func5 facts
    (of_decide_eq_true (by kernel_rfl)) (by unfold Func.isWrapper; first | (rw [if_pos (by decide +kernel)]; kernel_rfl) | (rw [if_neg (by decide +kernel)]; exact ⟨rfl, rfl⟩))
    (fun os started H enc _ => lifted os started H enc)

theorem proved : Rows.FnTurnedTumbleSaid := over
end fnTurnedTumble
end Go.Proofs.Ytdjbpbolliphkaa
