
/- FnFoldedWay: without gravity and loss a bead stands where the straight way, folded, stands, bit for bit. -/
import Derived.Test.YtdjbpbolliphkaaFoldW
import Derived.Test.YtdjbpbolliphkaaDrawWay
import Derived.Test.YtdjbpbolliphkaaOpen
import Derived.ProofKit
import Derived.ChangeOld
import Derived.Deep.RegionHeld3
import Derived.Below
import Derived.Laws.Cover3
namespace Go.Proofs.Ytdjbpbolliphkaa
open Go.ChangeShapes Go.WideShapes Go.ChangeAt Go.RowKit
attribute [local go_sem] run_store_float run_store_complex

set_option maxRecDepth 100000 in
set_option maxHeartbeats 8000000 in
theorem lawFolded (A : Option Addr) (m c : Nat) (bs : List Int) (w : World) (hr : Rd byteC 1 w w.heap.size A m bs) (hb : ∀ x ∈ bs, 0 ≤ x ∧ x ≤ 255) :
    Calls Try.prog 3 #[.slice A m c] w fun e w' => e = .returned (.bool true) ∧ Below w.heap.size w w' := by
  by_cases hbig : (4096 : Int) < m
  · have hd : decide ((4096 : Int) < m) = true := by simp [hbig]
    go_enter Try.func3, Try.ntmps3
    go_wp2_with (go_at_call 8; refine (bigT_any _ _ _ _).mono ?_; rintro e w' ⟨rfl, rfl⟩; simp only [hd])
    go_ret
    exact ⟨rfl, by (repeat (first | with_reducible assumption | exact Below.refl _ _ | (refine Below.setCell ?_ (by first | exact Nat.le_refl _ | (simp; done) | omega | (simp; omega)) _) | (refine below_drewN ?_ _) | (refine Below.drew ?_) | (refine Below.alloc ?_ (by first | exact Nat.le_refl _ | (simp; done) | omega | (simp; omega)) _) | (refine then_ ?_ (by with_reducible assumption)) | assumption | (refine then_ ?_ (by assumption))))⟩
  · have hd : decide ((4096 : Int) < m) = false := by simp [hbig]
    have hm : m ≤ 4096 := by omega
    go_enter Try.func3, Try.ntmps3
    go_wp2_with (go_at_call 8; refine (bigT_any _ _ _ _).mono ?_; rintro e w' ⟨rfl, rfl⟩; simp only [hd])
    refine (drawWay_any A m c bs _ hm hr hb).mono ?_
    rintro e w1 ⟨K, N, z, v, hK, hN, hz, hv, rfl, hb1⟩
    have hk : inB (K : Int) 0 3 = true := by unfold inB; simp; omega
    have FD := Lib.hid (folded hk hz hv N)
    have TB0 := Lib.hid (bead0_ok hk z v)
    have FZ := Lib.hid (foldP_wedge hk z)
    obtain ⟨r, hr0⟩ : ∃ r, r = foldP K z := ⟨_, rfl⟩
    have ok1 : r.2.2 = true := by
      obtain ⟨g, hg, hf, hs⟩ := firstG_some hk (keyP z)
      rw [hr0, foldP_g hz hf]
    have hB0 : bead0 K z v = (r.1, actP r.2.1.1 r.2.1.2 v.1 v.2) := by unfold bead0; rw [← hr0]
    have kf := fun w => foldPoint_any K z w
    rw [← hr0] at kf
    rw [hB0] at FD TB0
    obtain ⟨a, ⟨t, f⟩, ob⟩ := r
    dsimp only at ok1 FD TB0
    subst ok1
    simp only [foldV] at kf
    have KF := Lib.hid kf
    obtain ⟨s, hs⟩ : ∃ s, s = actP t f v.1 v.2 := ⟨_, rfl⟩
    have ka := fun w => actSym_any t f v.1 v.2 w
    rw [← hs] at ka FD TB0
    simp only [cxV] at ka
    have KA := Lib.hid ka
    have KW := Lib.hid (fun w => straightWay_any z v N w hz hv (by omega))
    have HV := Lib.hid hv
    have HK := Lib.hid hk
    clear hr0 hB0 kf hs ka hz hv hk FZ
    go_wp2_with fail
    (with_reducible refine (KF.out _).mono ?_)
    rintro e w2 ⟨rfl, hb2⟩
    have B2 := then_ hb1 hb2
    clear hb1 hb2
    go_wp2_with fail
    (with_reducible refine (KA.out _).mono ?_)
    rintro e w3 ⟨rfl, hb3⟩
    have B3 : Below w.heap.size w w3 := then_ (B2.alloc B2.size _) hb3
    clear hb3 B2
    go_upto_region 6 with fail
    obtain ⟨V1, hV1⟩ : ∃ V, V = (w3.alloc (Obj.cells #[.complex .f32 a.1 a.2, .complex .f32 s.1 s.2] 33)).alloc (Obj.cells #[.int .i64 K, .complex .f32 0 0, .float .f32 0, .slice (some ⟨w3.heap.size, 0, none⟩) 1 1] 37) := ⟨_, rfl⟩
    have bV1 : Below w3.heap.size w3 V1 := by rw [hV1]; (repeat (first | with_reducible assumption | exact Below.refl _ _ | (refine Below.setCell ?_ (by first | exact Nat.le_refl _ | (simp; done) | omega | (simp; omega)) _) | (refine below_drewN ?_ _) | (refine Below.drew ?_) | (refine Below.alloc ?_ (by first | exact Nat.le_refl _ | (simp; done) | omega | (simp; omega)) _) | (refine then_ ?_ (by with_reducible assumption)) | assumption | (refine then_ ?_ (by assumption))))
    have o1 : (w3.alloc (Obj.cells #[.complex .f32 a.1 a.2, .complex .f32 s.1 s.2] 33)).ownsRow w3.heap.size 33 2 (.slice (some ⟨w3.heap.size, 0, none⟩) 1 1) 1 (flat bdC [(a, s)]) := World.ownsRow_lit w3 #[.complex .f32 a.1 a.2, .complex .f32 s.1 s.2] 1 (Nat.le_refl _) (by unfold maxLen; omega) rfl
    have rM : Rd bdC 2 V1 V1.heap.size (some ⟨w3.heap.size, 0, none⟩) 1 [(a, s)] := by rw [hV1]; exact Rd.of_own bdC_len rfl (o1.alloc _)
    have BM : BoxT V1 (w3.heap.size + 1) K (0, 0) 0 (.slice (some ⟨w3.heap.size, 0, none⟩) 1 1) := by rw [hV1]; exact ⟨by simp [go_sem], by simp [go_sem], by simp [go_sem], by simp [go_sem]⟩
    rw [← hV1]
    have B4 := then_ B3 bV1
    have KR := Lib.hid (fun A c w h => runT_len K (0, 0) 0 1 A c [(a, s)] N w rfl TB0.out (by omega) h)
    clear hV1 bV1 o1 B3
    go_wp2_with fail
    (with_reducible refine (KW.out _).mono ?_)
    rintro e w4 ⟨⟨hy, hno⟩, hb4⟩
    have BM := BM.keep hb4
    have rM := rM.step hb4
    have B5 := then_ B4 hb4
    have lM := BM.lt
    obtain ⟨m0, m1, m2, m3⟩ := id BM
    dsimp only at m1
    obtain ⟨is, his⟩ : ∃ is, is = wayB z v N := ⟨_, rfl⟩
    rw [← his] at hy hno FD
    have HIS := Lib.hid his
    clear his B4
    cases is
    · obtain rfl := hno rfl
      clear hy hno hb4
      go_wp2_with fail
      refine (KR.out _ _ _ rM).mono ?_
      rw [FD.out.1]
      rintro e w5 ⟨B, d, rfl, r5, hb5⟩
      have B6 := then_ B5 hb5
      simp only [tumV]
      clear r5 hb5 B5
      go_wp2
      go_ret
      exact ⟨rfl, B6.alloc B6.size _⟩
    · obtain ⟨W, d1, rfl, ow⟩ := hy rfl
      have rW := Rd.of_own cxC_len (wayL_len z v N) ow
      clear hy hno hb4 ow
      go_wp2_with fail
      refine (KR.out _ _ _ rM).mono ?_
      rw [FD.out.1]
      rintro e w5 ⟨B, d, rfl, r5, hb5⟩
      have B6 := then_ B5 hb5
      have rW := rW.step hb5
      obtain ⟨hfin, b, hrb, hb2, hcx, hsp⟩ := FD.out.2 trivial
      rw [hrb] at r5
      simp only [tumV]
      clear hb5 B5 hrb rM BM m0 m1 m2 m3
      go_upto_region 10 with fail
      obtain ⟨V2, hV2⟩ : ∃ V, V = w5.alloc (Obj.cells #[.int .i64 K, .complex .f32 0 0, .float .f32 0, .slice B 1 d] 37) := ⟨_, rfl⟩
      have bV2 : Below w5.heap.size w5 V2 := by rw [hV2]; (repeat (first | with_reducible assumption | exact Below.refl _ _ | (refine Below.setCell ?_ (by first | exact Nat.le_refl _ | (simp; done) | omega | (simp; omega)) _) | (refine below_drewN ?_ _) | (refine Below.drew ?_) | (refine Below.alloc ?_ (by first | exact Nat.le_refl _ | (simp; done) | omega | (simp; omega)) _) | (refine then_ ?_ (by with_reducible assumption)) | assumption | (refine then_ ?_ (by assumption))))
      have BE : BoxT V2 w5.heap.size K (0, 0) 0 (.slice B 1 d) := by rw [hV2]; exact ⟨by simp [go_sem], by simp [go_sem], by simp [go_sem], by simp [go_sem]⟩
      rw [← hV2]
      have B7 := then_ B6 bV2
      obtain ⟨bb, off, q, rfl, hbl, hx, hc⟩ := (rW.step bV2).at_ (k := N) (by omega)
      have hq : q = zN z v N := by
        unfold wayL at hx
        rw [List.getElem?_map, List.getElem?_range (by omega)] at hx
        injection hx with hx
        exact hx.symm
      have c0 := hc 0 _ rfl
      rw [Nat.mul_one, Nat.add_zero] at c0
      have rE := r5.step bV2
      rw [← hq] at hfin hcx
      obtain ⟨y, hy⟩ : ∃ y, y = foldP K q := ⟨_, rfl⟩
      have kg := fun w => foldPoint_any K q w
      rw [← hy] at kg hfin hcx
      obtain ⟨x, ⟨tx, fx⟩, ox⟩ := y
      dsimp only at hfin hcx
      subst hfin
      simp only [foldV] at kg
      have KG := Lib.hid kg
      have hN0 : ¬ ((N : Int) < 0) := by omega
      have hNN : (N : Int) < ((N + 1 : Nat) : Int) := by omega
      clear hV2 bV2 hx hc hq hy kg rW r5 B6
      go_wp2_with fail
      (with_reducible refine (KG.out _).mono ?_)
      rintro e w6 ⟨rfl, hb6⟩
      have BE := BE.keep hb6
      obtain ⟨bc, oc, a1, v1, rfl, hbl2, hx2, e0, e1⟩ := (rE.step hb6).bd (k := 0) (by omega)
      rw [List.getElem?_cons_zero] at hx2
      injection hx2 with hx2
      subst hx2
      have B8 := then_ B7 hb6
      dsimp only at hcx hsp hb2
      unfold cxE at hcx
      rw [Bool.and_eq_true] at hcx
      obtain ⟨g1, g2⟩ := hcx
      have g1' : (FloatKind.f32.format.order a1.1 x.1 == some .eq) = true := g1
      have g2' : (FloatKind.f32.format.order a1.2 x.2 == some .eq) = true := g2
      have g3' : (FloatKind.f32.format.order (spanB v1) (spanB v) == some .eq) = true := hsp
      have KS1 := Lib.hid (fun w => span_any v1 w hb2)
      have KS2 := Lib.hid (fun w => span_any v w (point_fin HV.out))
      obtain ⟨sp1, hsp1⟩ : ∃ s, s = spanB v1 := ⟨_, rfl⟩
      obtain ⟨sp2, hsp2⟩ : ∃ s, s = spanB v := ⟨_, rfl⟩
      rw [← hsp1] at KS1 g3'
      rw [← hsp2] at KS2 g3'
      have lE := BE.lt
      obtain ⟨m0, m1, m2, m3⟩ := id BE
      rw [Nat.zero_mul, Nat.add_zero] at e0 e1
      clear hb6 B7 rE c0 g1 g2 hsp hsp1 hsp2
      go_wp2_with (first
        | (go_at_call 14; (with_reducible refine (KS1.out _).mono ?_); rintro e w' ⟨rfl, rfl⟩)
        | (go_at_call 14; (with_reducible refine (KS2.out _).mono ?_); rintro e w' ⟨rfl, rfl⟩))
      go_ret
      exact ⟨rfl, B8.alloc B8.size _⟩

namespace fnFoldedWay
theorem own : ownKnob Try.prog.godebug = none := by kernel_rfl
theorem laidOut : laidOutB Try.prog = true := by kernel_rfl
set_option maxRecDepth 100000 in
theorem lifted (os : Os) (started : os.Started) (H : Type) (enc : TypeId × Value → H) :
    ReturnsInHanded {} Try.checked os 3 .any (Rows.fnFoldedWaySpec.pre6 enc Try.prog Try.f3 Rows.fnFoldedWayRow.domain false) (Rows.fnFoldedWaySpec.post enc Try.prog Try.f3 false true false false) := by
  refine returnsInHanded_of_change (C := Try.checked) own started (by kernel_rfl) Try.func3
    (ChangeSpec.witness6 (enc := enc) (C := Try.checked) false ⟨#[], #[.slice none 0 0], []⟩ 8 (by kernel_rfl) (by kernel_rfl) (by kernel_rfl) (by kernel_rfl)) ?_
  intro W base args ds gs before hval0 hW hcnd _
  have hval : ∀ (j : Nat) t v, Try.f3.params[j]? = some t → args[j]? = some v → Value.okWide Try.prog W .any base t v := hval0
  have hW' := hW
  obtain ⟨p, q, hA0, hV, rfl, hfz, hnd⟩ := hW
  have hA : DataW.TrodAll enc Try.prog W 0 (fun _ => true) true Try.f3.params.toList args.toList ds p := hA0
  rw [Try.params3] at hA hval
  obtain ⟨v0, vs0, d0, ds0, p0, q0, hargs, rfl, rfl, h0, r0⟩ := trodAll_cons hA
  obtain ⟨rfl, rfl, rfl⟩ := trodAll_nil r0
  obtain rfl : args = #[v0] := by cases args; simp_all
  obtain ⟨rfl, rfl⟩ := trodVars_none hV
  have k0 := h0
  have lt0 : ∀ x ∈ p0, x.block < W.heap.size := by obtain ⟨m, hm⟩ := k0; exact DataW.trod_lt m _ _ _ hm
  obtain ⟨A, n, c, bs, rfl, hn, ha, hbs⟩ := open_bytes Try.underlying22 Try.underlying5 (by kernel_rfl) (hval 0 22 v0 rfl rfl) h0
  clear hA0 hval0
  refine (lawFolded A n c bs W ha hbs).mono fun e W' ⟨he, bel⟩ => ?_
  subst he
  exact ⟨_, rfl, _, _, _, [], _, [], hW', trodAll_mk1 (shut_bool Try.underlying4 _), (trodAll_cons_mk (Below.trod laidOut (by kernel_rfl) (of_decide_eq_true (by kernel_rfl)) k0 bel lt0) trodAll_mk0), rfl, bel.frame _, fun h => by cases h⟩

theorem and_mk {a b : Bool} (h : a = true) (k : b = true) : (a && b) = true := by rw [h, k]; rfl
set_option maxHeartbeats 40000000 in
theorem facts : joinedFacts Try.pinned.checked.prog 3 Try.f3 Rows.fnFoldedWaySpec Rows.fnFoldedWayRow = true := by
  unfold joinedFacts
  repeat (with_reducible refine and_mk ?_ ?_)
  all_goals (as_aux_lemma => kernel_rfl)
theorem named_ : Try.pinned.checked.prog.funcNamed Rows.fnFoldedWayRow.func = some 3 := by kernel_rfl
theorem over : Rows.fnFoldedWayRow.holds Try.pinned (OpenSpec.ofChange Rows.fnFoldedWaySpec) :=
  OpenClaim.holds_of_wide 3 Try.f3 rfl rfl rfl rfl rfl rfl rfl ⟨rfl, rfl, rfl, rfl, rfl⟩ rfl rfl rfl rfl rfl named_ Try.func3 facts
    (of_decide_eq_true (by kernel_rfl)) (by unfold Func.isWrapper; first | (rw [if_pos (by decide +kernel)]; kernel_rfl) | (rw [if_neg (by decide +kernel)]; exact ⟨rfl, rfl⟩))
    (fun os started H enc _ => lifted os started H enc)

theorem proved : Rows.FnFoldedWaySaid := over
end fnFoldedWay
end Go.Proofs.Ytdjbpbolliphkaa
