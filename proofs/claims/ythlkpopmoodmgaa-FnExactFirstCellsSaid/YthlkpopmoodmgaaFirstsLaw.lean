
/- For any kind of mirrors and any size the program's FirstCells returns what the reference's returns; the list is its own, and the arguments stay as they were. No condition. -/
import Derived.Test.YthlkpopmoodmgaaFirsts
import Derived.Test.YthlkpopmoodmgaaOpen
import Derived.ProofKit
import Derived.ChangeOld
import Derived.Below
namespace Go.Proofs.Ythlkpopmoodmgaa
open Go.ChangeShapes Go.WideShapes Go.ChangeAt Go.RowKit Go.Joins

theorem firstsL_len (kind size : Int) : (firstsL kind size).length ≤ 64 := by
  unfold firstsL
  split
  · rename_i h
    rw [Bool.and_eq_true] at h
    obtain ⟨b1, b2⟩ := inB_true h.2
    have b3 : size * size ≤ 8 * 8 := Int.mul_le_mul b2 b2 (by omega) (by omega)
    exact Nat.le_trans (firstsUp_len _ _ _) (by omega)
  · simp

set_option maxRecDepth 10000 in
set_option maxHeartbeats 2000000 in
theorem lawFirstCells (kind size : Int) (w : World) :
    Calls Try.prog 4 #[.int .i64 kind, .int .i64 size] w fun e w' => e = .returned (.bool true) ∧ Below w.heap.size w w' := by
  obtain ⟨xs, hx⟩ : ∃ xs, xs = firstsL kind size := ⟨_, rfl⟩
  obtain ⟨n, hn⟩ : ∃ n, n = xs.length := ⟨_, rfl⟩
  have h64 : n ≤ 64 := by rw [hn, hx]; exact firstsL_len _ _
  have hm : n ≤ maxLen := by unfold maxLen; omega
  have ks := specFirstCells_any kind size
  have ki := firstCells_any kind size
  rw [← hx, ← hn] at ks ki
  have KS := Lib.hid ks
  have KI := Lib.hid ki
  have HN := Lib.hid hn
  clear ks ki hx hn
  go_enter Try.func4, Try.ntmps4
  go_wp2_with fail
  refine (KS.out _).mono ?_
  rintro e w1 ⟨A, c, rfl, ho1, hb1⟩
  have r1 : Rd intC 1 w1 w1.heap.size A n xs := Rd.of_own intC_len HN.out.symm ho1
  clear ho1
  go_wp2_with fail
  refine (KI.out _).mono ?_
  rintro e w2 ⟨B, d, rfl, ho2, hb2⟩
  have r2 : Rd intC 1 w2 w2.heap.size B n xs := Rd.of_own intC_len HN.out.symm ho2
  have O2 := Lib.hid ho2
  clear ho2
  go_wp2_with fail
  refine (eqIntS_any _ _ _ _ _ xs _ hm r2 (r1.step hb2)).mono ?_
  rintro e w3 ⟨rfl, hb3⟩
  go_wp2_with fail
  have O3 := Lib.hid (owns_below O2.out hb3)
  clear r2
  have B13 : Below w1.heap.size w1 w3 := by (repeat (first | with_reducible assumption | exact Below.refl _ _ | (refine Below.setCell ?_ (by first | exact Nat.le_refl _ | (simp; done) | omega | (simp; omega)) _) | (refine below_drewN ?_ _) | (refine Below.drew ?_) | (refine Below.alloc ?_ (by first | exact Nat.le_refl _ | (simp; done) | omega | (simp; omega)) _) | (refine then_ ?_ (by with_reducible assumption)) | assumption | (refine then_ ?_ (by assumption))))
  refine (markIntS_any _ _ _ _ _ _ _ (by omega) (by omega) (by omega) O3.out).mono ?_
  rintro e w4 ⟨rfl, ho4, hg4⟩
  have B14 : Below w1.heap.size w1 w4 := B13.trans (below_owned O3.out hg4 B13.size)
  have r4 := Rd.of_own intC_len (marksI_len _ _) ho4
  have O4 := Lib.hid ho4
  clear ho4 hg4 B13 hb2 hb3
  go_wp2_with fail
  refine (heldIntS_any _ _ _ _ _ (by omega) (by omega) (by omega) r4).mono ?_
  rintro e w' ⟨rfl, rfl⟩
  go_wp2_with fail
  refine (KI.out _).mono ?_
  rintro e w5 ⟨C, d5, rfl, ho5, hb5⟩
  have r5 : Rd intC 1 w5 w5.heap.size C n xs := Rd.of_own intC_len HN.out.symm ho5
  clear ho5
  go_wp2_with fail
  refine (eqIntS_any _ _ _ _ _ xs _ hm r5 ((r1.step B14).step hb5)).mono ?_
  rintro e w6 ⟨rfl, hb6⟩
  go_wp2_with fail
  refine (heldIntS_any _ _ _ _ _ (by omega) (by omega) (by omega) ((r4.step hb5).step hb6)).mono ?_
  rintro e w' ⟨rfl, rfl⟩
  go_wp2
  go_ret
  exact ⟨rfl, by (repeat (first | with_reducible assumption | exact Below.refl _ _ | (refine Below.setCell ?_ (by first | exact Nat.le_refl _ | (simp; done) | omega | (simp; omega)) _) | (refine below_drewN ?_ _) | (refine Below.drew ?_) | (refine Below.alloc ?_ (by first | exact Nat.le_refl _ | (simp; done) | omega | (simp; omega)) _) | (refine then_ ?_ (by with_reducible assumption)) | assumption | (refine then_ ?_ (by assumption))))⟩

namespace fnExactFirstCells
theorem own : ownKnob Try.prog.godebug = none := by kernel_rfl
theorem laidOut : laidOutB Try.prog = true := by kernel_rfl
set_option maxRecDepth 100000 in
theorem lifted (os : Os) (started : os.Started) (H : Type) (enc : TypeId × Value → H) :
    ReturnsInHanded {} Try.checked os 4 .any (Rows.fnExactFirstCellsSpec.pre6 enc Try.prog Try.f4 Rows.fnExactFirstCellsRow.domain false) (Rows.fnExactFirstCellsSpec.post enc Try.prog Try.f4 false true false false) := by
  refine returnsInHanded_of_change (C := Try.checked) own started (by kernel_rfl) Try.func4
    (ChangeSpec.witness6 (enc := enc) (C := Try.checked) false ⟨#[], #[.int .i64 0, .int .i64 0], []⟩ 8 (by kernel_rfl) (by kernel_rfl) (by kernel_rfl) (by kernel_rfl)) ?_
  intro W base args ds gs before hval0 hW hcnd _
  have hval : ∀ (j : Nat) t v, Try.f4.params[j]? = some t → args[j]? = some v → Value.okWide Try.prog W .any base t v := hval0
  have hW' := hW
  obtain ⟨p, q, hA0, hV, rfl, hfz, hnd⟩ := hW
  have hA : DataW.TrodAll enc Try.prog W 0 (fun _ => true) true Try.f4.params.toList args.toList ds p := hA0
  rw [Try.params4] at hA hval
  obtain ⟨v0, vs0, d0, ds0, p0, q0, hargs, rfl, rfl, h0, r0⟩ := trodAll_cons hA
  obtain ⟨v1, vs1, d1, ds1, p1, q1, rfl, rfl, rfl, h1, r1⟩ := trodAll_cons r0
  obtain ⟨rfl, rfl, rfl⟩ := trodAll_nil r1
  obtain rfl : args = #[v0, v1] := by cases args; simp_all
  obtain ⟨rfl, rfl⟩ := trodVars_none hV
  have k0 := h0
  have lt0 : ∀ x ∈ p0, x.block < W.heap.size := by obtain ⟨m, hm⟩ := k0; exact DataW.trod_lt m _ _ _ hm
  have k1 := h1
  have lt1 : ∀ x ∈ p1, x.block < W.heap.size := by obtain ⟨m, hm⟩ := k1; exact DataW.trod_lt m _ _ _ hm
  obtain ⟨a0, rfl, rfl, rfl, w0⟩ := open_int Try.underlying3 (hval 0 3 v0 rfl rfl) h0
  obtain ⟨a1, rfl, rfl, rfl, w1⟩ := open_int Try.underlying3 (hval 1 3 v1 rfl rfl) h1
  clear hA0 hval0
  refine (lawFirstCells a0 a1 W).mono fun e W' ⟨he, bel⟩ => ?_
  subst he
  exact ⟨_, rfl, _, _, _, [], _, [], hW', trodAll_mk1 (shut_bool Try.underlying4 _), (trodAll_cons_mk (Below.trod laidOut (by kernel_rfl) (of_decide_eq_true (by kernel_rfl)) k0 bel lt0) (trodAll_cons_mk (Below.trod laidOut (by kernel_rfl) (of_decide_eq_true (by kernel_rfl)) k1 bel lt1) trodAll_mk0)), rfl, bel.frame _, fun h => by cases h⟩

theorem and_mk {a b : Bool} (h : a = true) (k : b = true) : (a && b) = true := by rw [h, k]; rfl
set_option maxHeartbeats 40000000 in
theorem facts : joinedFacts Try.pinned.checked.prog 4 Try.f4 Rows.fnExactFirstCellsSpec Rows.fnExactFirstCellsRow = true := by
  unfold joinedFacts
  repeat (with_reducible refine and_mk ?_ ?_)
  all_goals (as_aux_lemma => kernel_rfl)
theorem named_ : Try.pinned.checked.prog.funcNamed Rows.fnExactFirstCellsRow.func = some 4 := by kernel_rfl
theorem over : Rows.fnExactFirstCellsRow.holds Try.pinned (OpenSpec.ofChange Rows.fnExactFirstCellsSpec) :=
  OpenClaim.holds_of_wide 4 Try.f4 rfl rfl rfl rfl rfl rfl rfl ⟨rfl, rfl, rfl, rfl, rfl⟩ rfl rfl rfl rfl rfl named_ Try.func4 facts
    (of_decide_eq_true (by kernel_rfl)) (by unfold Func.isWrapper; first | (rw [if_pos (by decide +kernel)]; kernel_rfl) | (rw [if_neg (by decide +kernel)]; exact ⟨rfl, rfl⟩))
    (fun os started H enc _ => lifted os started H enc)

theorem proved : Rows.FnExactFirstCellsSaid := over
end fnExactFirstCells
end Go.Proofs.Ythlkpopmoodmgaa
