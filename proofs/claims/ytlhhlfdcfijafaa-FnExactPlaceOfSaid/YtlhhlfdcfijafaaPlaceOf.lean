
/- For every size and cell the program's PlaceOf returns what the reference's returns. No condition. -/
import Derived.Test.YtlhhlfdcfijafaaCellTo
import Derived.Test.YtlhhlfdcfijafaaEq2
import Derived.ProofKit
import Derived.ChangeOld
import Derived.Below
namespace Go.Proofs.Ytlhhlfdcfijafaa
open Go.ChangeShapes Go.WideShapes Go.ChangeAt Go.RowKit

theorem specPlaceOf_ok (size cell : Int) (w : World) (h : okCell size cell = true) :
    Calls Try.prog 7 #[.int .i64 size, .int .i64 cell] w fun e w' => e = .returned (.tuple #[.complex .f32 (fl (ptI size cell).1) (fl (ptI size cell).2), .bool true]) ∧ Dr w w' :=
  (specPlaceOf_any size cell w).mono fun e w' ⟨he, hd⟩ => ⟨by rw [he]; unfold placeV; rw [h]; rfl, hd⟩
theorem specPlaceOf_no (size cell : Int) (w : World) (h : okCell size cell = false) :
    Calls Try.prog 7 #[.int .i64 size, .int .i64 cell] w fun e w' => e = .returned (.tuple #[.complex .f32 0 0, .bool false]) ∧ Dr w w' :=
  (specPlaceOf_any size cell w).mono fun e w' ⟨he, hd⟩ => ⟨by rw [he]; unfold placeV; rw [h]; rfl, hd⟩

set_option maxHeartbeats 1000000 in
theorem lawPlaceOf (size cell : Int) (w : World) :
    Calls Try.prog 3 #[.int .i64 size, .int .i64 cell] w fun e w' => e = .returned (.bool true) ∧ Below w.heap.size w w' := by
  cases hk : okCell size cell
  · have K := Lib.hid hk
    clear hk
    have k0 := fun wx => run_conv128 (P := Try.prog) 22 26 0 0 (by kernel_rfl) Try.underlying26 wx
    go_enter Try.func3, Try.ntmps3
    go_wp2_with (first
      | (go_at_call 7; refine (specPlaceOf_no _ _ _ K.out).mono ?_; rintro e w' ⟨rfl, n, rfl⟩)
      | (go_at_call 8; refine (placeOf_no _ _ _ K.out).mono ?_; rintro e w' ⟨rfl, n, rfl⟩)
      | (go_at_call 9; refine (sameComplex_any _ _ _ _ _ (cvB_same _ _ _) (cvB_same _ _ _)).mono ?_; rintro e w' ⟨rfl, rfl⟩))
    go_ret
    exact ⟨rfl, by (repeat (first | assumption | exact Below.refl _ _ | (refine Below.setCell ?_ (by first | exact Nat.le_refl _ | (simp; done) | omega | (simp; omega)) _) | (refine below_drewN ?_ _) | (refine Below.drew ?_) | (refine Below.alloc ?_ (by first | exact Nat.le_refl _ | (simp; done) | omega | (simp; omega)) _) | (refine then_ ?_ (by assumption))))⟩
  · have K := Lib.hid hk
    clear hk
    have k0 := fun wx => run_conv128 (P := Try.prog) 22 26 (fl (ptI size cell).1) (fl (ptI size cell).2) (by kernel_rfl) Try.underlying26 wx
    go_enter Try.func3, Try.ntmps3
    go_wp2_with (first
      | (go_at_call 7; refine (specPlaceOf_ok _ _ _ K.out).mono ?_; rintro e w' ⟨rfl, n, rfl⟩)
      | (go_at_call 8; refine (placeOf_ok _ _ _ K.out).mono ?_; rintro e w' ⟨rfl, n, rfl⟩)
      | (go_at_call 9; refine (sameComplex_any _ _ _ _ _ (cvB_same _ _ _) (cvB_same _ _ _)).mono ?_; rintro e w' ⟨rfl, rfl⟩))
    go_ret
    exact ⟨rfl, by (repeat (first | assumption | exact Below.refl _ _ | (refine Below.setCell ?_ (by first | exact Nat.le_refl _ | (simp; done) | omega | (simp; omega)) _) | (refine below_drewN ?_ _) | (refine Below.drew ?_) | (refine Below.alloc ?_ (by first | exact Nat.le_refl _ | (simp; done) | omega | (simp; omega)) _) | (refine then_ ?_ (by assumption))))⟩
namespace fnExactPlaceOf
theorem own : ownKnob Try.prog.godebug = none := by kernel_rfl
theorem laidOut : laidOutB Try.prog = true := by kernel_rfl
set_option maxRecDepth 100000 in
theorem lifted (os : Os) (started : os.Started) (H : Type) (enc : TypeId × Value → H) :
    ReturnsInHanded {} Try.checked os 3 .any (Rows.fnExactPlaceOfSpec.pre6 enc Try.prog Try.f3 Rows.fnExactPlaceOfRow.domain false) (Rows.fnExactPlaceOfSpec.post enc Try.prog Try.f3 false true false false) := by
  refine returnsInHanded_of_change (C := Try.checked) own started (by kernel_rfl) Try.func3
    (ChangeSpec.witness6 (enc := enc) (C := Try.checked) false ⟨#[], #[.int .i64 0, .int .i64 0], []⟩ 8 (by kernel_rfl) (by kernel_rfl) (by kernel_rfl) (by kernel_rfl)) ?_
  intro W base args ds gs before hval0 hW hcnd _
  have hval : ∀ (j : Nat) t v, Try.f3.params[j]? = some t → args[j]? = some v → Value.okWide Try.prog W .any base t v := hval0
  have hW' := hW
  obtain ⟨p, q, hA0, hV, rfl, hfz, hnd⟩ := hW
  have hA : DataW.TrodAll enc Try.prog W 0 (fun _ => true) true Try.f3.params.toList args.toList ds p := hA0
  rw [Try.params3] at hA hval
  obtain ⟨v0, vs0, d0, ds0, p0, q0, hargs, rfl, rfl, h0, r0⟩ := trodAll_cons hA
  obtain ⟨v1, vs1, d1, ds1, p1, q1, rfl, rfl, rfl, h1, r1⟩ := trodAll_cons r0
  obtain ⟨rfl, rfl, rfl⟩ := trodAll_nil r1
  obtain rfl : args = #[v0, v1] := by cases args; simp_all
  obtain ⟨rfl, rfl⟩ := trodVars_none hV
  have k0 := h0
  have lt0 : ∀ x ∈ p0, x.block < W.heap.size := by obtain ⟨m, hm⟩ := k0; exact DataW.trod_lt m _ _ _ hm
  have k1 := h1
  have lt1 : ∀ x ∈ p1, x.block < W.heap.size := by obtain ⟨m, hm⟩ := k1; exact DataW.trod_lt m _ _ _ hm
  obtain ⟨a0, rfl, rfl, rfl, w0⟩ := open_int Try.underlying3 (hval 0 3 v0 rfl rfl) h0
  obtain ⟨a1, rfl, rfl, rfl, w1⟩ := open_int Try.underlying3 (hval 1 3 v1 rfl rfl) h1
  clear hA0 hval0
  refine (lawPlaceOf a0 a1 W).mono fun e W' ⟨he, bel⟩ => ?_
  subst he
  exact ⟨_, rfl, _, _, _, [], _, [], hW', trodAll_mk1 (shut_bool Try.underlying4 _), (trodAll_cons_mk (Below.trod laidOut (by kernel_rfl) (of_decide_eq_true (by kernel_rfl)) k0 bel lt0) (trodAll_cons_mk (Below.trod laidOut (by kernel_rfl) (of_decide_eq_true (by kernel_rfl)) k1 bel lt1) trodAll_mk0)), rfl, bel.frame _, fun h => by cases h⟩

theorem over : Rows.fnExactPlaceOfRow.holds Try.pinned (OpenSpec.ofChange Rows.fnExactPlaceOfSpec) :=
  OpenClaim.holds_of_wide 3 Try.f3 rfl rfl rfl rfl rfl rfl rfl ⟨rfl, rfl, rfl, rfl, rfl⟩ rfl rfl rfl rfl rfl (by kernel_rfl) Try.func3 (by kernel_rfl)
    (of_decide_eq_true (by kernel_rfl)) (by unfold Func.isWrapper; first | (rw [if_pos (by decide +kernel)]; kernel_rfl) | (rw [if_neg (by decide +kernel)]; exact ⟨rfl, rfl⟩))
    (fun os started H enc _ => lifted os started H enc)

theorem proved : Rows.FnExactPlaceOfSaid := over
end fnExactPlaceOf
end Go.Proofs.Ytlhhlfdcfijafaa
