
/- For any picture the program's MirrorsOfPicture returns what the reference's returns, and the argument stays as it was. No condition. -/
import Derived.Test.YthlkpopmoodmgaaMirS
import Derived.Test.YthlkpopmoodmgaaSame
import Derived.Test.YthlkpopmoodmgaaOpen
import Derived.ProofKit
import Derived.ChangeOld
import Derived.Below
namespace Go.Proofs.Ythlkpopmoodmgaa
open Go.ChangeShapes Go.WideShapes Go.ChangeAt Go.RowKit Go.Joins

set_option maxRecDepth 10000 in
set_option maxHeartbeats 2000000 in
theorem lawMir (A : Option Addr) (s1 : Int) (n c : Nat) (xs : List Col) (w : World) (hn' : n ≤ maxLen) (ha : Rd colC 3 w w.heap.size A n xs) :
    Calls Try.prog 11 #[.agg #[.int .i64 s1, .slice A n c]] w fun e w' => e = .returned (.bool true) ∧ Below w.heap.size w w' := by
  by_cases h1 : (n : Int) ≤ 1048576
  · have hn : n ≤ 1048576 := by omega
    have L1 := Lib.hid (left_yes h1)
    have hp1 : (0 : Int) ≤ 1048576 - n := by omega
    go_enter Try.func11, Try.ntmps11
    go_wp2_with fail
    refine (szPicture_any s1 A n c _ _ hn' (by omega) (by omega)).mono ?_
    rintro e w1 ⟨rfl, hb1⟩
    rw [L1.out]
    have kc_0 := keepC (p := ⟨w.heap.size, 0, none⟩) (v := .int .i64 s1) (by first | assumption | (simp [go_sem]; done) | (simp [go_sem, *]; done)) hb1; have kc_1 := keepC (p := ⟨w.heap.size, 1, none⟩) (v := .slice A n c) (by first | assumption | (simp [go_sem]; done) | (simp [go_sem, *]; done)) hb1; have lb_ := (show w.heap.size < _ from World.block_lt_of_cell? _ _ kc_0)
    go_wp2_with fail
    have hW1 : Below w.heap.size w w1 := by (repeat (first | with_reducible assumption | exact Below.refl _ _ | (refine Below.setCell ?_ (by first | exact Nat.le_refl _ | (simp; done) | omega | (simp; omega)) _) | (refine below_drewN ?_ _) | (refine Below.drew ?_) | (refine Below.alloc ?_ (by first | exact Nat.le_refl _ | (simp; done) | omega | (simp; omega)) _) | (refine then_ ?_ (by with_reducible assumption)) | assumption | (refine then_ ?_ (by assumption))))
    clear hb1
    refine (toPicture_any s1 A n c xs _ hn (ha.step hW1)).mono ?_
    rintro e w3 ⟨A3, rfl, ho3, hb3⟩
    have r3 := Rd.of_own colC_len ha.1 ho3
    clear ho3
    have kc_0 := keepC (p := ⟨w.heap.size, 0, none⟩) (v := .int .i64 s1) (by first | assumption | (simp [go_sem]; done) | (simp [go_sem, *]; done)) hb3; have kc_1 := keepC (p := ⟨w.heap.size, 1, none⟩) (v := .slice A n c) (by first | assumption | (simp [go_sem]; done) | (simp [go_sem, *]; done)) hb3; have lb_ := (show w.heap.size < _ from World.block_lt_of_cell? _ _ kc_0)
    have hW3 : Below w.heap.size w w3 := then_ hW1 hb3
    clear hb3 hW1
    go_wp2_with fail
    refine (specMirrorsOfPicture_any _ _ _ _ xs _ hn' r3).mono ?_
    rintro e w5 ⟨rfl, hb5⟩
    have kc_0 := keepC (p := ⟨w.heap.size, 0, none⟩) (v := .int .i64 s1) (by first | assumption | (simp [go_sem]; done) | (simp [go_sem, *]; done)) hb5; have kc_1 := keepC (p := ⟨w.heap.size, 1, none⟩) (v := .slice A n c) (by first | assumption | (simp [go_sem]; done) | (simp [go_sem, *]; done)) hb5; have lb_ := (show w.heap.size < _ from World.block_lt_of_cell? _ _ kc_0)
    have hW5 : Below w.heap.size w w5 := then_ hW3 hb5
    clear hb5 hW3 r3
    go_wp2_with fail
    refine (toPicture_any s1 A n c xs _ hn (ha.step hW5)).mono ?_
    rintro e w6 ⟨A6, rfl, ho6, hb6⟩
    have r6 := Rd.of_own colC_len ha.1 ho6
    clear ho6
    have kc_0 := keepC (p := ⟨w.heap.size, 0, none⟩) (v := .int .i64 s1) (by first | assumption | (simp [go_sem]; done) | (simp [go_sem, *]; done)) hb6; have kc_1 := keepC (p := ⟨w.heap.size, 1, none⟩) (v := .slice A n c) (by first | assumption | (simp [go_sem]; done) | (simp [go_sem, *]; done)) hb6; have lb_ := (show w.heap.size < _ from World.block_lt_of_cell? _ _ kc_0)
    have hW6 : Below w.heap.size w w6 := then_ hW5 hb6
    clear hb6 hW5
    go_wp2_with fail
    refine (mirrorsOfPicture_any _ _ _ _ xs _ hn' (r6.step ?_)).mono ?_
    (repeat (first | with_reducible assumption | exact Below.refl _ _ | (refine Below.setCell ?_ (by first | exact Nat.le_refl _ | (simp; done) | omega | (simp; omega)) _) | (refine below_drewN ?_ _) | (refine Below.drew ?_) | (refine Below.alloc ?_ (by first | exact Nat.le_refl _ | (simp; done) | omega | (simp; omega)) _) | (refine then_ ?_ (by with_reducible assumption)) | assumption | (refine then_ ?_ (by assumption))))
    rw [mirI_eq]
    rintro e w8 ⟨rfl, hb8⟩
    have kc_0 := keepC (p := ⟨w6.heap.size, 0, none⟩) (v := .int .i64 s1) (by first | assumption | (simp [go_sem]; done) | (simp [go_sem, *]; done)) hb8; have kc_1 := keepC (p := ⟨w6.heap.size, 1, none⟩) (v := .slice A6 n n) (by first | assumption | (simp [go_sem]; done) | (simp [go_sem, *]; done)) hb8; have lb_ := (show w6.heap.size < _ from World.block_lt_of_cell? _ _ kc_0)
    have kc_0 := keepC (p := ⟨w.heap.size, 0, none⟩) (v := .int .i64 s1) (by first | assumption | (simp [go_sem]; done) | (simp [go_sem, *]; done)) hb8; have kc_1 := keepC (p := ⟨w.heap.size, 1, none⟩) (v := .slice A n c) (by first | assumption | (simp [go_sem]; done) | (simp [go_sem, *]; done)) hb8; have lb_ := (show w.heap.size < _ from World.block_lt_of_cell? _ _ kc_0)
    have q6 : Rd colC 3 w8 w8.heap.size A6 n xs := r6.step (by (repeat (first | with_reducible assumption | exact Below.refl _ _ | (refine Below.setCell ?_ (by first | exact Nat.le_refl _ | (simp; done) | omega | (simp; omega)) _) | (refine below_drewN ?_ _) | (refine Below.drew ?_) | (refine Below.alloc ?_ (by first | exact Nat.le_refl _ | (simp; done) | omega | (simp; omega)) _) | (refine then_ ?_ (by with_reducible assumption)) | assumption | (refine then_ ?_ (by assumption)))))
    have hW8 : Below w.heap.size w w8 := by (repeat (first | with_reducible assumption | exact Below.refl _ _ | (refine Below.setCell ?_ (by first | exact Nat.le_refl _ | (simp; done) | omega | (simp; omega)) _) | (refine below_drewN ?_ _) | (refine Below.drew ?_) | (refine Below.alloc ?_ (by first | exact Nat.le_refl _ | (simp; done) | omega | (simp; omega)) _) | (refine then_ ?_ (by with_reducible assumption)) | assumption | (refine then_ ?_ (by assumption))))
    clear hb8 r6 hW6
    have hz : (mirP s1 xs != mirP s1 xs) = false := by simp
    go_wp2_with fail
    clear hz
    go_region_held3 (fun w' => (∀ b o, b < w8.heap.size → w'.cell? ⟨b, o, none⟩ = w8.cell? ⟨b, o, none⟩) ∧ Below w8.heap.size w8 w') (first | assumption | exact startS _ | exact stepS (by assumption) (by assumption)) (first | (go_at_call 16; refine (toPicture_any s1 A n c xs _ hn (ha.step ?_)).mono ?_; (repeat (first | with_reducible assumption | exact Below.refl _ _ | (refine Below.setCell ?_ (by first | exact Nat.le_refl _ | (simp; done) | omega | (simp; omega)) _) | (refine below_drewN ?_ _) | (refine Below.drew ?_) | (refine Below.alloc ?_ (by first | exact Nat.le_refl _ | (simp; done) | omega | (simp; omega)) _) | (refine then_ ?_ (by with_reducible assumption)) | assumption | (refine then_ ?_ (by assumption)))); rintro e w9 ⟨A9, rfl, ho9, hb9⟩; have r9 := Rd.of_own colC_len ha.1 ho9; clear ho9) | (go_at_call 18; refine (eqPicture_any _ _ _ _ _ _ xs _ hn' (q6.step ?_) (r9.step ?_)).mono ?_; (repeat (first | with_reducible assumption | exact Below.refl _ _ | (refine Below.setCell ?_ (by first | exact Nat.le_refl _ | (simp; done) | omega | (simp; omega)) _) | (refine below_drewN ?_ _) | (refine Below.drew ?_) | (refine Below.alloc ?_ (by first | exact Nat.le_refl _ | (simp; done) | omega | (simp; omega)) _) | (refine then_ ?_ (by with_reducible assumption)) | assumption | (refine then_ ?_ (by assumption)))); rintro e w10 ⟨rfl, hb10⟩))
    have hS := ‹_ ∧ Below w8.heap.size w8 w10›
    have hW10 : Below w.heap.size w w10 := then_ hW8 hS.2
    go_wp2
    go_ret
    exact ⟨rfl, hW10⟩
  · have L1 := Lib.hid (left_no h1)
    go_enter Try.func11, Try.ntmps11
    go_wp2_with fail
    refine (szPicture_any s1 A n c _ _ hn' (by omega) (by omega)).mono ?_
    rintro e w1 ⟨rfl, hb1⟩
    rw [L1.out]
    go_wp2
    go_ret
    exact ⟨rfl, by (repeat (first | with_reducible assumption | exact Below.refl _ _ | (refine Below.setCell ?_ (by first | exact Nat.le_refl _ | (simp; done) | omega | (simp; omega)) _) | (refine below_drewN ?_ _) | (refine Below.drew ?_) | (refine Below.alloc ?_ (by first | exact Nat.le_refl _ | (simp; done) | omega | (simp; omega)) _) | (refine then_ ?_ (by with_reducible assumption)) | assumption | (refine then_ ?_ (by assumption))))⟩

namespace fnExactMirrorsOfPicture
theorem cells_pic : Try.prog.cellsOf 24 = 2 := by kernel_rfl
theorem own : ownKnob Try.prog.godebug = none := by kernel_rfl
theorem laidOut : laidOutB Try.prog = true := by kernel_rfl
set_option maxRecDepth 100000 in
theorem lifted (os : Os) (started : os.Started) (H : Type) (enc : TypeId × Value → H) :
    ReturnsInHanded {} Try.checked os 11 .any (Rows.fnExactMirrorsOfPictureSpec.pre6 enc Try.prog Try.f11 Rows.fnExactMirrorsOfPictureRow.domain false) (Rows.fnExactMirrorsOfPictureSpec.post enc Try.prog Try.f11 false true false false) := by
  refine returnsInHanded_of_change (C := Try.checked) own started (by kernel_rfl) Try.func11
    (ChangeSpec.witness6 (enc := enc) (C := Try.checked) false ⟨#[], #[.agg #[.int .i64 0, .slice none 0 0]], []⟩ 8 (by kernel_rfl) (by kernel_rfl) (by kernel_rfl) (by kernel_rfl)) ?_
  intro W base args ds gs before hval0 hW hcnd _
  have hval : ∀ (j : Nat) t v, Try.f11.params[j]? = some t → args[j]? = some v → Value.okWide Try.prog W .any base t v := hval0
  have hW' := hW
  obtain ⟨p, q, hA0, hV, rfl, hfz, hnd⟩ := hW
  have hA : DataW.TrodAll enc Try.prog W 0 (fun _ => true) true Try.f11.params.toList args.toList ds p := hA0
  rw [Try.params11] at hA hval
  obtain ⟨v0, vs0, d0, ds0, p0, q0, hargs, rfl, rfl, h0, r0⟩ := trodAll_cons hA
  obtain ⟨rfl, rfl, rfl⟩ := trodAll_nil r0
  obtain rfl : args = #[v0] := by cases args; simp_all
  obtain ⟨rfl, rfl⟩ := trodVars_none hV
  have k0 := h0
  have lt0 : ∀ x ∈ p0, x.block < W.heap.size := by obtain ⟨m, hm⟩ := k0; exact DataW.trod_lt m _ _ _ hm
  obtain ⟨c0, c1, y0, y1, m, rfl, rfl, rfl, hy0, hy1⟩ := open_agg2 Try.underlying24 (by kernel_rfl) cells_pic (hval 0 24 v0 rfl rfl) h0
  obtain ⟨s1, e0, rfl, wa⟩ := DataW.trod_int Try.underlying3 hy0
  obtain ⟨A, n, c, xs, rfl, hn, ha⟩ := open_cols hy1
  simp at e0
  subst e0
  clear hA0 hval0
  refine (lawMir A s1 n c xs W hn ha).mono fun e W' ⟨he, bel⟩ => ?_
  subst he
  exact ⟨_, rfl, _, _, _, [], _, [], hW', trodAll_mk1 (shut_bool Try.underlying4 _), (trodAll_cons_mk (Below.trod laidOut (by kernel_rfl) (of_decide_eq_true (by kernel_rfl)) k0 bel lt0) trodAll_mk0), rfl, bel.frame _, fun h => by cases h⟩

theorem and_mk {a b : Bool} (h : a = true) (k : b = true) : (a && b) = true := by rw [h, k]; rfl
set_option maxHeartbeats 40000000 in
theorem facts : joinedFacts Try.pinned.checked.prog 11 Try.f11 Rows.fnExactMirrorsOfPictureSpec Rows.fnExactMirrorsOfPictureRow = true := by
  unfold joinedFacts
  repeat (with_reducible refine and_mk ?_ ?_)
  all_goals (as_aux_lemma => kernel_rfl)
theorem named_ : Try.pinned.checked.prog.funcNamed Rows.fnExactMirrorsOfPictureRow.func = some 11 := by kernel_rfl
theorem over : Rows.fnExactMirrorsOfPictureRow.holds Try.pinned (OpenSpec.ofChange Rows.fnExactMirrorsOfPictureSpec) :=
  OpenClaim.holds_of_wide 11 Try.f11 rfl rfl rfl rfl rfl rfl rfl ⟨rfl, rfl, rfl, rfl, rfl⟩ rfl rfl rfl rfl rfl named_ Try.func11 facts
    (of_decide_eq_true (by kernel_rfl)) (by unfold Func.isWrapper; first | (rw [if_pos (by decide +kernel)]; kernel_rfl) | (rw [if_neg (by decide +kernel)]; exact ⟨rfl, rfl⟩))
    (fun os started H enc _ => lifted os started H enc)

theorem proved : Rows.FnExactMirrorsOfPictureSaid := over
end fnExactMirrorsOfPicture
end Go.Proofs.Ythlkpopmoodmgaa
