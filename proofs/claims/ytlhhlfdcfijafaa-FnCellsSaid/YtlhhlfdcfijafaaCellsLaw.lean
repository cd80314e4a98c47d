
/- For every input: symmetries take cells to cells, one after the other as their product does (FnCells answers true). No condition. -/
import Derived.Test.YtlhhlfdcfijafaaDrawSyms
import Derived.Test.YtlhhlfdcfijafaaCellsP
import Derived.Test.YtlhhlfdcfijafaaOpen
import Derived.ProofKit
import Derived.ChangeOld
import Derived.Below
import Derived.Deep.RegionHeld3
import Derived.Laws.Cover3
namespace Go.Proofs.Ytlhhlfdcfijafaa
open Go.ChangeShapes Go.WideShapes Go.ChangeAt Go.RowKit

theorem big_any (A : Option Addr) (m c : Nat) (w : World) :
    Calls Try.prog 18 #[.slice A m c] w fun e w' => e = .returned (.bool (decide ((4096 : Int) < m))) ∧ w = w' := by
  go_enter Try.func18, Try.ntmps18
  go_wp2
  go_ret
  exact ⟨rfl, rfl⟩

theorem ord_small : ∀ k : Nat, k < 17 → Ieee.single.order (fl ((k : Int) - 8)) (fl ((k : Int) - 8)) = some .eq := by decide +kernel
theorem ord_self (n : Int) (h1 : -8 ≤ n) (h2 : n ≤ 8) : FloatKind.f32.format.order (fl n) (fl n) = some .eq := by
  have h := ord_small (n + 8).toNat (by omega)
  rw [show (((n + 8).toNat : Nat) : Int) - 8 = n from by omega] at h
  exact h

set_option maxRecDepth 10000 in
set_option maxHeartbeats 2000000 in
theorem lawCells (A : Option Addr) (m c : Nat) (bs : List Int) (w : World) (hr : Rd byteC 1 w w.heap.size A m bs) (hb : ∀ x ∈ bs, 0 ≤ x ∧ x ≤ 255) :
    Calls Try.prog 6 #[.slice A m c] w fun e w' => e = .returned (.bool true) ∧ Below w.heap.size w w' := by
  by_cases hbig : (4096 : Int) < m
  · have hd : decide ((4096 : Int) < m) = true := by simpa using hbig
    go_enter Try.func6, Try.ntmps6
    go_wp2_with (go_at_call 18; refine (big_any _ _ _ _).mono ?_; rintro e w' ⟨rfl, rfl⟩; rw [hd])
    go_ret
    exact ⟨rfl, by (repeat (first | with_reducible assumption | exact Below.refl _ _ | (refine Below.setCell ?_ (by first | exact Nat.le_refl _ | (simp; done) | omega | (simp; omega)) _) | (refine below_drewN ?_ _) | (refine Below.drew ?_) | (refine Below.alloc ?_ (by first | exact Nat.le_refl _ | (simp; done) | omega | (simp; omega)) _) | (refine then_ ?_ (by with_reducible assumption)) | assumption | (refine then_ ?_ (by assumption))))⟩
  · have hd : decide ((4096 : Int) < m) = false := by simpa using hbig
    go_enter Try.func6, Try.ntmps6
    go_wp2_with fail
    refine (big_any _ _ _ _).mono ?_
    rintro e w' ⟨rfl, rfl⟩
    rw [hd]
    go_wp2_with fail
    refine (drawSyms_any A m c bs _ (by omega) (hr.step (by (repeat (first | with_reducible assumption | exact Below.refl _ _ | (refine Below.setCell ?_ (by first | exact Nat.le_refl _ | (simp; done) | omega | (simp; omega)) _) | (refine below_drewN ?_ _) | (refine Below.drew ?_) | (refine Below.alloc ?_ (by first | exact Nat.le_refl _ | (simp; done) | omega | (simp; omega)) _) | (refine then_ ?_ (by with_reducible assumption)) | assumption | (refine then_ ?_ (by assumption)))))) hb).mono ?_
    rintro e w1 ⟨i, j, l, hi, hj, hl, rfl, hb1⟩
    have hz1 := hb1.size
    go_wp2_with fail
    obtain ⟨s, hs, hS⟩ : ∃ s : Nat, s < 8 ∧ (1 + (m : Int) % 8) = (s : Int) + 1 := ⟨m % 8, by omega, by omega⟩
    generalize (1 + (m : Int) % 8) = S at hS ⊢
    subst hS
    have hm1 : ((s : Int) + 1) * ((s : Int) + 1) ≤ 8 * 8 := Int.mul_le_mul (by omega) (by omega) (by omega) (by omega)
    have hm0 : 0 ≤ ((s : Int) + 1) * ((s : Int) + 1) := Int.mul_nonneg (by omega) (by omega)
    go_loopw [7] (fun kv wr => ∃ k : Nat, (k : Int) ≤ ((s : Int) + 1) * ((s : Int) + 1) ∧ kv = .int .i64 k ∧ Below w.heap.size w wr ∧ wr.cell? ⟨w1.heap.size, 0, none⟩ = some (.int .i64 (sym8 i).1) ∧ wr.cell? ⟨w1.heap.size, 1, none⟩ = some (.bool (sym8 i).2) ∧
        wr.cell? ⟨w1.heap.size + 1, 0, none⟩ = some (.int .i64 (sym8 j).1) ∧ wr.cell? ⟨w1.heap.size + 1, 1, none⟩ = some (.bool (sym8 j).2)) (fun kv _ => (((s : Int) + 1) * ((s : Int) + 1)).toNat - (intOf kv).toNat)
    case atStart => exact ⟨0, by simpa using hm0, rfl, by (repeat (first | with_reducible assumption | exact Below.refl _ _ | (refine Below.setCell ?_ (by first | exact Nat.le_refl _ | (simp; done) | omega | (simp; omega)) _) | (refine below_drewN ?_ _) | (refine Below.drew ?_) | (refine Below.alloc ?_ (by first | exact Nat.le_refl _ | (simp; done) | omega | (simp; omega)) _) | (refine then_ ?_ (by with_reducible assumption)) | assumption | (refine then_ ?_ (by assumption)))), by simp [go_sem], by simp [go_sem], by simp [go_sem], by simp [go_sem]⟩
    case round =>
      obtain ⟨k, hk, rfl, hw, b0, b1, b2, b3⟩ := hrel
      by_cases hlt : (k : Int) < ((s : Int) + 1) * ((s : Int) + 1)
      · have hkn : k < (s + 1) * (s + 1) := by
          have e : (((s + 1) * (s + 1) : Nat) : Int) = ((s : Int) + 1) * ((s : Int) + 1) := by rw [Int.natCast_mul]; simp
          omega
        obtain ⟨T, C, X, Y, f1, f2, f3, f4, f5, f6, x1, x2, y1, y2, f7, f8, f9⟩ := cells_round s k i j hs hkn hi hj
        have K0 := Lib.hid f1
        have V1 := Lib.hid f2
        have K1 := Lib.hid f3
        have P1 := Lib.hid f4
        have A1 := Lib.hid f5
        have Q1 := Lib.hid f6
        have V2 := Lib.hid f7
        have V3 := Lib.hid f8
        have V4 := Lib.hid f9
        clear f1 f2 f3 f4 f5 f6 f7 f8 f9
        go_wp2_with fail
        refine (placeOf_ok _ _ _ K0.out).mono ?_
        rintro e w2 ⟨rfl, hd2⟩
        have hb2 := hd2.below
        clear hd2
        have kc_0 := keepC (p := ⟨w1.heap.size, 0, none⟩) (v := .int .i64 (sym8 i).1) (by first | assumption | (simp [go_sem]; done) | (simp [go_sem, *]; done)) hb2; have kc_1 := keepC (p := ⟨w1.heap.size, 1, none⟩) (v := .bool (sym8 i).2) (by first | assumption | (simp [go_sem]; done) | (simp [go_sem, *]; done)) hb2; have lb_ := (show w1.heap.size < _ from World.block_lt_of_cell? _ _ kc_0)
        have kc1_0 := keepC (p := ⟨w1.heap.size + 1, 0, none⟩) (v := .int .i64 (sym8 j).1) (by first | assumption | (simp [go_sem]; done) | (simp [go_sem, *]; done)) hb2; have kc1_1 := keepC (p := ⟨w1.heap.size + 1, 1, none⟩) (v := .bool (sym8 j).2) (by first | assumption | (simp [go_sem]; done) | (simp [go_sem, *]; done)) hb2; have lb1_ := (show w1.heap.size + 1 < _ from World.block_lt_of_cell? _ _ kc1_0)
        go_wp2_with fail
        refine (cellTo_any _ _ _ _ _).mono ?_
        rintro e w3 ⟨rfl, hb3⟩
        rw [show cellV ((s : Int) + 1) (k : Int) (sym8 i).1 (sym8 i).2 = T from V1.out]
        have kc_0 := keepC (p := ⟨w1.heap.size, 0, none⟩) (v := .int .i64 (sym8 i).1) (by first | assumption | (simp [go_sem]; done) | (simp [go_sem, *]; done)) hb3; have kc_1 := keepC (p := ⟨w1.heap.size, 1, none⟩) (v := .bool (sym8 i).2) (by first | assumption | (simp [go_sem]; done) | (simp [go_sem, *]; done)) hb3; have lb_ := (show w1.heap.size < _ from World.block_lt_of_cell? _ _ kc_0)
        have kc1_0 := keepC (p := ⟨w1.heap.size + 1, 0, none⟩) (v := .int .i64 (sym8 j).1) (by first | assumption | (simp [go_sem]; done) | (simp [go_sem, *]; done)) hb3; have kc1_1 := keepC (p := ⟨w1.heap.size + 1, 1, none⟩) (v := .bool (sym8 j).2) (by first | assumption | (simp [go_sem]; done) | (simp [go_sem, *]; done)) hb3; have lb1_ := (show w1.heap.size + 1 < _ from World.block_lt_of_cell? _ _ kc1_0)
        go_wp2_with fail
        refine (placeOf_ok _ _ _ K1.out).mono ?_
        rintro e w4 ⟨rfl, hd4⟩
        rw [P1.out]
        have hb4 := hd4.below
        clear hd4
        have kc_0 := keepC (p := ⟨w1.heap.size, 0, none⟩) (v := .int .i64 (sym8 i).1) (by first | assumption | (simp [go_sem]; done) | (simp [go_sem, *]; done)) hb4; have kc_1 := keepC (p := ⟨w1.heap.size, 1, none⟩) (v := .bool (sym8 i).2) (by first | assumption | (simp [go_sem]; done) | (simp [go_sem, *]; done)) hb4; have lb_ := (show w1.heap.size < _ from World.block_lt_of_cell? _ _ kc_0)
        have kc1_0 := keepC (p := ⟨w1.heap.size + 1, 0, none⟩) (v := .int .i64 (sym8 j).1) (by first | assumption | (simp [go_sem]; done) | (simp [go_sem, *]; done)) hb4; have kc1_1 := keepC (p := ⟨w1.heap.size + 1, 1, none⟩) (v := .bool (sym8 j).2) (by first | assumption | (simp [go_sem]; done) | (simp [go_sem, *]; done)) hb4; have lb1_ := (show w1.heap.size + 1 < _ from World.block_lt_of_cell? _ _ kc1_0)
        have hW4 : Below w.heap.size w w4 := by (repeat (first | with_reducible assumption | exact Below.refl _ _ | (refine Below.setCell ?_ (by first | exact Nat.le_refl _ | (simp; done) | omega | (simp; omega)) _) | (refine below_drewN ?_ _) | (refine Below.drew ?_) | (refine Below.alloc ?_ (by first | exact Nat.le_refl _ | (simp; done) | omega | (simp; omega)) _) | (refine then_ ?_ (by with_reducible assumption)) | assumption | (refine then_ ?_ (by assumption))))
        clear hb2 hb3 hb4 hw
        go_wp2_with fail
        have o1 := ord_self X x1 x2
        have o2 := ord_self Y y1 y2
        have ti := sym8_ok i hi
        have hz : ((k : Int) != (k : Int)) = false := by simp
        have hc : (C != C) = false := by simp
        go_region_held3 (fun w' => (∀ b o, b < w4.heap.size → w'.cell? ⟨b, o, none⟩ = w4.cell? ⟨b, o, none⟩) ∧ Below w4.heap.size w4 w') (first | assumption | exact startS _ | exact stepS (by assumption) (by assumption)) (first | (go_at_call 20; refine (actSym_ok _ _ _ _ _ ti Q1.out).mono ?_; rintro e w5 ⟨rfl, hb5⟩; rw [A1.out]; simp only [cxV]) | (go_at_call 12; (with_reducible refine (cellTo_any _ T (sym8 j).1 (sym8 j).2 _).mono ?_); rintro e w5 ⟨rfl, hb5⟩; rw [show cellV ((s : Int) + 1) T (sym8 j).1 (sym8 j).2 = C from V2.out]) | (go_at_call 21; refine (thenSym_any _ _ _ _ _).mono ?_; rintro e w5 ⟨rfl, hb5⟩; simp only [symP, symV]) | (go_at_call 22; refine (backSym_any _ _ _).mono ?_; rintro e w5 ⟨rfl, hb5⟩; simp only [symP, symV]) | (go_at_call 12; (with_reducible refine (cellTo_any _ (k : Int) _ _ _).mono ?_); rintro e w5 ⟨rfl, hb5⟩; rw [show cellV ((s : Int) + 1) (k : Int) (thenP (sym8 i).1 (sym8 i).2 (sym8 j).1 (sym8 j).2).1 (thenP (sym8 i).1 (sym8 i).2 (sym8 j).1 (sym8 j).2).2 = C from V3.out]) | (go_at_call 12; (with_reducible refine (cellTo_any _ T _ _ _).mono ?_); rintro e w5 ⟨rfl, hb5⟩; rw [show cellV ((s : Int) + 1) T (backP (sym8 i).1 (sym8 i).2).1 (backP (sym8 i).1 (sym8 i).2).2 = (k : Int) from V4.out]))
        have hS := ‹_ ∧ Below w4.heap.size w4 w5›
        have hB := then_ hW4 hS.2
        have kc_0 := keepC (p := ⟨w1.heap.size, 0, none⟩) (v := .int .i64 (sym8 i).1) (by first | assumption | (simp [go_sem]; done) | (simp [go_sem, *]; done)) hS.2; have kc_1 := keepC (p := ⟨w1.heap.size, 1, none⟩) (v := .bool (sym8 i).2) (by first | assumption | (simp [go_sem]; done) | (simp [go_sem, *]; done)) hS.2; have lb_ := (show w1.heap.size < _ from World.block_lt_of_cell? _ _ kc_0)
        have kc1_0 := keepC (p := ⟨w1.heap.size + 1, 0, none⟩) (v := .int .i64 (sym8 j).1) (by first | assumption | (simp [go_sem]; done) | (simp [go_sem, *]; done)) hS.2; have kc1_1 := keepC (p := ⟨w1.heap.size + 1, 1, none⟩) (v := .bool (sym8 j).2) (by first | assumption | (simp [go_sem]; done) | (simp [go_sem, *]; done)) hS.2; have lb1_ := (show w1.heap.size + 1 < _ from World.block_lt_of_cell? _ _ kc1_0)
        clear hS
        go_wp2
        go_roundw
        case rel => exact ⟨k + 1, by omega, by go_num, hB, kc_0, kc_1, kc1_0, kc1_1⟩
        case measure => simp [intOf]; omega
      · go_wp2
        go_ret
        exact ⟨rfl, hw⟩

namespace fnCells
theorem own : ownKnob Try.prog.godebug = none := by kernel_rfl
theorem laidOut : laidOutB Try.prog = true := by kernel_rfl
set_option maxRecDepth 100000 in
theorem lifted (os : Os) (started : os.Started) (H : Type) (enc : TypeId × Value → H) :
    ReturnsInHanded {} Try.checked os 6 .any (Rows.fnCellsSpec.pre6 enc Try.prog Try.f6 Rows.fnCellsRow.domain false) (Rows.fnCellsSpec.post enc Try.prog Try.f6 false true false false) := by
  refine returnsInHanded_of_change (C := Try.checked) own started (by kernel_rfl) Try.func6
    (ChangeSpec.witness6 (enc := enc) (C := Try.checked) false ⟨#[], #[.slice none 0 0], []⟩ 8 (by kernel_rfl) (by kernel_rfl) (by kernel_rfl) (by kernel_rfl)) ?_
  intro W base args ds gs before hval0 hW hcnd _
  have hval : ∀ (j : Nat) t v, Try.f6.params[j]? = some t → args[j]? = some v → Value.okWide Try.prog W .any base t v := hval0
  have hW' := hW
  obtain ⟨p, q, hA0, hV, rfl, hfz, hnd⟩ := hW
  have hA : DataW.TrodAll enc Try.prog W 0 (fun _ => true) true Try.f6.params.toList args.toList ds p := hA0
  rw [Try.params6] at hA hval
  obtain ⟨v0, vs0, d0, ds0, p0, q0, hargs, rfl, rfl, h0, r0⟩ := trodAll_cons hA
  obtain ⟨rfl, rfl, rfl⟩ := trodAll_nil r0
  obtain rfl : args = #[v0] := by cases args; simp_all
  obtain ⟨rfl, rfl⟩ := trodVars_none hV
  have k0 := h0
  have lt0 : ∀ x ∈ p0, x.block < W.heap.size := by obtain ⟨m, hm⟩ := k0; exact DataW.trod_lt m _ _ _ hm
  obtain ⟨A, n, c, bs, rfl, hn, ha, hbs⟩ := open_bytes Try.underlying44 Try.underlying5 (by kernel_rfl) (hval 0 44 v0 rfl rfl) h0
  clear hA0 hval0
  refine (lawCells A n c bs W ha hbs).mono fun e W' ⟨he, bel⟩ => ?_
  subst he
  exact ⟨_, rfl, _, _, _, [], _, [], hW', trodAll_mk1 (shut_bool Try.underlying4 _), (trodAll_cons_mk (Below.trod laidOut (by kernel_rfl) (of_decide_eq_true (by kernel_rfl)) k0 bel lt0) trodAll_mk0), rfl, bel.frame _, fun h => by cases h⟩

theorem and_mk {a b : Bool} (h : a = true) (k : b = true) : (a && b) = true := by rw [h, k]; rfl
set_option maxHeartbeats 40000000 in
theorem facts : joinedFacts Try.pinned.checked.prog 6 Try.f6 Rows.fnCellsSpec Rows.fnCellsRow = true := by
  unfold joinedFacts
  repeat (with_reducible refine and_mk ?_ ?_)
  all_goals (as_aux_lemma => kernel_rfl)
theorem named_ : Try.pinned.checked.prog.funcNamed Rows.fnCellsRow.func = some 6 := by kernel_rfl
theorem over : Rows.fnCellsRow.holds Try.pinned (OpenSpec.ofChange Rows.fnCellsSpec) :=
  OpenClaim.holds_of_wide 6 Try.f6 rfl rfl rfl rfl rfl rfl rfl ⟨rfl, rfl, rfl, rfl, rfl⟩ rfl rfl rfl rfl rfl named_ Try.func6 facts
    (of_decide_eq_true (by kernel_rfl)) (by unfold Func.isWrapper; first | (rw [if_pos (by decide +kernel)]; kernel_rfl) | (rw [if_neg (by decide +kernel)]; exact ⟨rfl, rfl⟩))
    (fun os started H enc _ => lifted os started H enc)

theorem proved : Rows.FnCellsSaid := over
end fnCells
end Go.Proofs.Ytlhhlfdcfijafaa
