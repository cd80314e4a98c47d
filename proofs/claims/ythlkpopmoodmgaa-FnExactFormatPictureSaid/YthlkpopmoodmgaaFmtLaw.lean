
/- For any picture the program's FormatPicture returns what the reference's returns; the list is its own, and the argument stays as it was. No condition. -/
import Derived.Test.YthlkpopmoodmgaaFmtPS
import Derived.Test.YthlkpopmoodmgaaMarkT
import Derived.Test.YthlkpopmoodmgaaMarkC
import Derived.Test.YthlkpopmoodmgaaReg
import Derived.Test.YthlkpopmoodmgaaEqS
import Derived.Test.YthlkpopmoodmgaaOpen
import Derived.ProofKit
import Derived.ChangeOld
import Derived.Below
namespace Go.Proofs.Ythlkpopmoodmgaa
open Go.ChangeShapes Go.WideShapes Go.ChangeAt Go.RowKit Go.Joins

theorem fmtL_len (s : Int) (xs : List Col) : (fmtL s xs).length ≤ 8 := by
  unfold fmtL
  cases h : pictB s xs
  · simp
  · have := pict_bd h
    rw [if_pos rfl, fmtUp_len]; omega

set_option maxRecDepth 100000 in
set_option maxHeartbeats 8000000 in
theorem lawFmt_go (A : Option Addr) (s1 : Int) (n c : Nat) (xs : List Col) (w : World) (hn : n ≤ 1048576) (ha : Rd colC 3 w w.heap.size A n xs) :
    Calls Try.prog 6 #[.agg #[.int .i64 s1, .slice A n c]] w fun e w' => e = .returned (.bool true) ∧ Below w.heap.size w w' := by
  have hn' : n ≤ maxLen := by unfold maxLen; omega
  have hl1 : (n : Int) ≤ 1048576 := by omega
  have L1 := Lib.hid (left_yes hl1)
  have hp1 : (0 : Int) ≤ 1048576 - n := by omega
  obtain ⟨gs, hQ⟩ : ∃ gs, gs = fmtL s1 xs := ⟨_, rfl⟩
  have ks := fun A c w h => specFormatPicture_any s1 A n c xs w hn' h
  have ki := fun A c w h => formatPicture_any s1 A n c xs w hn' h
  rw [← hQ] at ks ki
  have h8 : gs.length ≤ 8 := by rw [hQ]; exact fmtL_len _ _
  have hm : gs.length ≤ 1048576 := by omega
  have hm' : gs.length ≤ maxLen := by unfold maxLen; omega
  have KS := Lib.hid ks
  have KI := Lib.hid ki
  clear ks ki hQ
  go_enter Try.func6, Try.ntmps6
  go_wp2_with fail
  refine (szPicture_any s1 A n c _ _ hn' (by omega) (by omega)).mono ?_
  rintro e w1 ⟨rfl, hb1⟩
  rw [L1.out]
  have kc_0 := keepC (p := ⟨w.heap.size, 0, none⟩) (v := .int .i64 s1) (by first | assumption | (simp [go_sem]; done) | (simp [go_sem, *]; done)) hb1; have kc_1 := keepC (p := ⟨w.heap.size, 1, none⟩) (v := .slice A n c) (by first | assumption | (simp [go_sem]; done) | (simp [go_sem, *]; done)) hb1; have lb_ := (show w.heap.size < _ from World.block_lt_of_cell? _ _ kc_0)
  go_wp2_with fail
  have hW1 : Below w.heap.size w w1 := by (repeat (first | with_reducible assumption | exact Below.refl _ _ | (refine Below.setCell ?_ (by first | exact Nat.le_refl _ | (simp; done) | omega | (simp; omega)) _) | (refine below_drewN ?_ _) | (refine Below.drew ?_) | (refine Below.alloc ?_ (by first | exact Nat.le_refl _ | (simp; done) | omega | (simp; omega)) _) | (refine then_ ?_ (by with_reducible assumption)) | assumption | (refine then_ ?_ (by assumption))))
  have ra := ha.step hW1
  clear hb1
  refine (toPicture_any s1 A n c xs _ hn ra).mono ?_
  rintro e v2 ⟨A2, rfl, ho2, hb2⟩
  have r2 := Rd.of_own colC_len ha.1 ho2
  have kc_0 := keepC (p := ⟨w.heap.size, 0, none⟩) (v := .int .i64 s1) (by first | assumption | (simp [go_sem]; done) | (simp [go_sem, *]; done)) hb2; have kc_1 := keepC (p := ⟨w.heap.size, 1, none⟩) (v := .slice A n c) (by first | assumption | (simp [go_sem]; done) | (simp [go_sem, *]; done)) hb2; have lb_ := (show w.heap.size < _ from World.block_lt_of_cell? _ _ kc_0)
  clear ho2
  go_wp2_with fail
  refine (KS.out _ _ _ r2).mono ?_
  rintro e w2 ⟨B6, d6, rfl, ho6, hb3⟩
  have r6 : Rd bsC 1 w2 w2.heap.size B6 gs.length gs := Rd.of_own bsC_len rfl ho6
  have kc_0 := keepC (p := ⟨w.heap.size, 0, none⟩) (v := .int .i64 s1) (by first | assumption | (simp [go_sem]; done) | (simp [go_sem, *]; done)) hb3; have kc_1 := keepC (p := ⟨w.heap.size, 1, none⟩) (v := .slice A n c) (by first | assumption | (simp [go_sem]; done) | (simp [go_sem, *]; done)) hb3; have lb_ := (show w.heap.size < _ from World.block_lt_of_cell? _ _ kc_0)
  clear ho6 r2
  go_wp2_with fail
  have hW2 : Below w.heap.size w w2 := then_ (then_ hW1 hb2) hb3
  have ra2 := ha.step hW2
  clear hb2 hb3 ra hW1
  refine (toPicture_any s1 A n c xs _ hn ra2).mono ?_
  rintro e w3 ⟨A3, rfl, ho3, hb3⟩
  have O3 := Lib.hid ho3
  have r3 := Rd.of_own colC_len ha.1 ho3
  have kc_0 := keepC (p := ⟨w.heap.size, 0, none⟩) (v := .int .i64 s1) (by first | assumption | (simp [go_sem]; done) | (simp [go_sem, *]; done)) hb3; have kc_1 := keepC (p := ⟨w.heap.size, 1, none⟩) (v := .slice A n c) (by first | assumption | (simp [go_sem]; done) | (simp [go_sem, *]; done)) hb3; have lb_ := (show w.heap.size < _ from World.block_lt_of_cell? _ _ kc_0)
  clear ho3
  go_wp2_with fail
  obtain ⟨W3, hWe⟩ : ∃ W, W = w3.alloc (Obj.cells #[.int .i64 s1, .slice A3 n n] 29) := ⟨_, rfl⟩
  have hW : Below w3.heap.size w3 W3 := by rw [hWe]; (repeat (first | with_reducible assumption | exact Below.refl _ _ | (refine Below.setCell ?_ (by first | exact Nat.le_refl _ | (simp; done) | omega | (simp; omega)) _) | (refine below_drewN ?_ _) | (refine Below.drew ?_) | (refine Below.alloc ?_ (by first | exact Nat.le_refl _ | (simp; done) | omega | (simp; omega)) _) | (refine then_ ?_ (by with_reducible assumption)) | assumption | (refine then_ ?_ (by assumption))))
  have zW : W3.heap.size = w3.heap.size + 1 := by rw [hWe]; simp
  have x0 : W3.cell? ⟨w3.heap.size, 0, none⟩ = some (.int .i64 s1) := by rw [hWe]; simp [go_sem]
  have x1 : W3.cell? ⟨w3.heap.size, 1, none⟩ = some (.slice A3 n n) := by rw [hWe]; simp [go_sem]
  rw [← hWe]
  clear hWe
  have ZW := Lib.hid zW
  have lW : w3.heap.size < W3.heap.size := by omega
  clear zW
  have kc_0 := keepC (p := ⟨w.heap.size, 0, none⟩) (v := .int .i64 s1) (by first | assumption | (simp [go_sem]; done) | (simp [go_sem, *]; done)) hW; have kc_1 := keepC (p := ⟨w.heap.size, 1, none⟩) (v := .slice A n c) (by first | assumption | (simp [go_sem]; done) | (simp [go_sem, *]; done)) hW; have lb_ := (show w.heap.size < _ from World.block_lt_of_cell? _ _ kc_0)
  have R3 := r3.step hW
  clear r3
  refine (KI.out _ _ _ R3).mono ?_
  rintro e w4 ⟨B8, d8, rfl, o8, hwc⟩
  have kc_0 := keepC (p := ⟨w3.heap.size, 0, none⟩) (v := .int .i64 s1) (by first | assumption | (simp [go_sem]; done) | (simp [go_sem, *]; done)) hwc; have kc_1 := keepC (p := ⟨w3.heap.size, 1, none⟩) (v := .slice A3 n n) (by first | assumption | (simp [go_sem]; done) | (simp [go_sem, *]; done)) hwc; have lb_ := (show w3.heap.size < _ from World.block_lt_of_cell? _ _ kc_0)
  have kc_0 := keepC (p := ⟨w.heap.size, 0, none⟩) (v := .int .i64 s1) (by first | assumption | (simp [go_sem]; done) | (simp [go_sem, *]; done)) hwc; have kc_1 := keepC (p := ⟨w.heap.size, 1, none⟩) (v := .slice A n c) (by first | assumption | (simp [go_sem]; done) | (simp [go_sem, *]; done)) hwc; have lb_ := (show w.heap.size < _ from World.block_lt_of_cell? _ _ kc_0)
  have r8 : Rd bsC 1 w4 w4.heap.size B8 gs.length gs := Rd.of_own bsC_len rfl o8
  go_wp2_with fail
  have B24 : Below w2.heap.size w2 w4 := then_ (then_ hb3 hW) hwc
  have O3' := Lib.hid (owns_below (owns_below O3.out hW) hwc)
  have q3 := R3.step hwc
  have z2 := B24.size
  have z23 := hb3.size
  have W34 := Lib.hid hwc.size
  have O8 := Lib.hid o8
  have AB := Lib.hid (off_of' O3.out o8 (Nat.le_of_lt lW))
  clear o8 hwc hW hb3 O3 R3
  have hW4 : Below w.heap.size w w4 := then_ hW2 B24
  -- the list is the reference's
  refine (eqStringS_any _ _ _ _ _ gs _ hm' r8 (r6.step B24)).mono ?_
  rintro e w5 ⟨rfl, hb5⟩
  have kc_0 := keepC (p := ⟨w.heap.size, 0, none⟩) (v := .int .i64 s1) (by first | assumption | (simp [go_sem]; done) | (simp [go_sem, *]; done)) hb5; have kc_1 := keepC (p := ⟨w.heap.size, 1, none⟩) (v := .slice A n c) (by first | assumption | (simp [go_sem]; done) | (simp [go_sem, *]; done)) hb5; have lb_ := (show w.heap.size < _ from World.block_lt_of_cell? _ _ kc_0)
  have kc_0 := keepC (p := ⟨w3.heap.size, 0, none⟩) (v := .int .i64 s1) (by first | assumption | (simp [go_sem]; done) | (simp [go_sem, *]; done)) hb5; have kc_1 := keepC (p := ⟨w3.heap.size, 1, none⟩) (v := .slice A3 n n) (by first | assumption | (simp [go_sem]; done) | (simp [go_sem, *]; done)) hb5; have lb_ := (show w3.heap.size < _ from World.block_lt_of_cell? _ _ kc_0)
  have z45 := hb5.size
  have q5 := q3.step hb5
  have hW5 := then_ hW4 hb5
  have ra5 := ha.step hW5
  clear q3
  -- the argument is as it was
  go_wp2_with fail
  go_region_held3 (fun w' => (∀ b o, b < w5.heap.size → w'.cell? ⟨b, o, none⟩ = w5.cell? ⟨b, o, none⟩) ∧ Below w5.heap.size w5 w') (first | assumption | exact startS _ | exact stepS (by assumption) (by assumption)) (first | (go_at_call 16; refine (toPicture_any s1 A n c xs _ hn (ra5.step ?_)).mono ?_; (repeat (first | with_reducible assumption | exact Below.refl _ _ | (refine Below.setCell ?_ (by first | exact Nat.le_refl _ | (simp; done) | omega | (simp; omega)) _) | (refine below_drewN ?_ _) | (refine Below.drew ?_) | (refine Below.alloc ?_ (by first | exact Nat.le_refl _ | (simp; done) | omega | (simp; omega)) _) | (refine then_ ?_ (by with_reducible assumption)) | assumption | (refine then_ ?_ (by assumption)))); rintro e w6 ⟨A6, rfl, ho6, hb6⟩; have r9 := Rd.of_own colC_len ha.1 ho6; clear ho6) | (go_at_call 18; refine (eqPicture_any _ _ _ _ _ _ xs _ hn' (q5.step ?_) (r9.step ?_)).mono ?_; (repeat (first | with_reducible assumption | exact Below.refl _ _ | (refine Below.setCell ?_ (by first | exact Nat.le_refl _ | (simp; done) | omega | (simp; omega)) _) | (refine below_drewN ?_ _) | (refine Below.drew ?_) | (refine Below.alloc ?_ (by first | exact Nat.le_refl _ | (simp; done) | omega | (simp; omega)) _) | (refine then_ ?_ (by with_reducible assumption)) | assumption | (refine then_ ?_ (by assumption)))); rintro e w7 ⟨rfl, hb7⟩))
  have hS := ‹_ ∧ Below w5.heap.size w5 w7›
  have hb57 := hS.2
  have z57 := hb57.size
  clear hS q5 r9 hb6 hb7
  have kc_0 := keepC (p := ⟨w3.heap.size, 0, none⟩) (v := .int .i64 s1) (by first | assumption | (simp [go_sem]; done) | (simp [go_sem, *]; done)) hb57; have kc_1 := keepC (p := ⟨w3.heap.size, 1, none⟩) (v := .slice A3 n n) (by first | assumption | (simp [go_sem]; done) | (simp [go_sem, *]; done)) hb57; have lb_ := (show w3.heap.size < _ from World.block_lt_of_cell? _ _ kc_0)
  have kc_0 := keepC (p := ⟨w.heap.size, 0, none⟩) (v := .int .i64 s1) (by first | assumption | (simp [go_sem]; done) | (simp [go_sem, *]; done)) hb57; have kc_1 := keepC (p := ⟨w.heap.size, 1, none⟩) (v := .slice A n c) (by first | assumption | (simp [go_sem]; done) | (simp [go_sem, *]; done)) hb57; have lb_ := (show w.heap.size < _ from World.block_lt_of_cell? _ _ kc_0)
  have B27 : Below w2.heap.size w2 w7 := then_ (then_ B24 hb5) hb57
  have O37 := Lib.hid (owns_below (owns_below O3'.out hb5) hb57)
  have O87 := Lib.hid (owns_below (owns_below O8.out hb5) hb57)
  clear hb5 hb57 O3' O8 B24
  -- marks in the argument
  go_wp2_with fail
  refine (markPicture_any s1 A3 n n _ 1 _ _ hn (by omega) (by omega) O37.out).mono ?_
  rintro e w8 ⟨rfl, ho8, hg8⟩
  have z78 := hg8.size
  have s0 := keepG_lt kc_0 O37.out hg8 (by show w.heap.size < _; omega)
  have s1' := keepG_lt kc_1 O37.out hg8 (by show w.heap.size < _; omega)
  have O88 := Lib.hid (owns_grown O87.out hg8 AB.out)
  have B28 : Below w2.heap.size w2 w8 := B27.trans (below_owned O37.out hg8 B27.size)
  have hW8 := then_ hW2 B28
  clear ho8 hg8 O37 O87 B27 kc_0 kc_1 hW5 ra5 hW4 r8
  have r86 := r6.step B28
  have r88 : Rd bsC 1 w8 w8.heap.size B8 gs.length gs := Rd.of_own bsC_len rfl O88.out
  have hk : ¬ (1 + 3 * (n : Int) < 0) := by omega
  have hk' : (0 : Int) ≤ 1 + 3 * (n : Int) := by omega
  -- the list still is the reference's
  go_wp2_with fail
  refine (eqStringS_any _ _ _ _ _ gs _ hm' r88 r86).mono ?_
  rintro e w9 ⟨rfl, hb9⟩
  have t0 := keepC s0 hb9
  have t1 := keepC s1' hb9
  have O89 := Lib.hid (owns_below O88.out hb9)
  have O89s : W3.heap.size ≤ w9.heap.size := by have := hb9.size; have := W34.out; omega
  have B29 := then_ B28 hb9
  clear s0 s1' O88 B28 hb9 r86 r88
  -- marks in the list
  go_wp2_with fail
  refine (markStringS_any B8 gs.length _ _ 1 _ _ hm (by omega) (by omega) O89.out).mono ?_
  rintro e w10 ⟨rfl, ho10, hg10⟩
  have B210 : Below w2.heap.size w2 w10 := B29.trans ((below_owned O89.out hg10 O89s).mono (by omega))
  have s0 := keepG_lt t0 O89.out hg10 (by show w.heap.size < _; omega)
  have s1' := keepG_lt t1 O89.out hg10 (by show w.heap.size < _; omega)
  have r10 : Rd bsC 1 w10 w10.heap.size B8 gs.length (marksT 1 gs.length) := Rd.of_own bsC_len (marksT_len _ _) ho10
  have hk : ¬ (((1 : Nat) : Int) + (gs.length : Int) < 0) := by omega
  have hk' : (0 : Int) ≤ ((1 : Nat) : Int) + (gs.length : Int) := by omega
  clear t0 t1 ho10 hg10 O89 B29
  go_wp2_with fail
  refine (heldStringS_any B8 _ _ 1 _ hm (by omega) (by omega) r10).mono ?_
  rintro e w11 ⟨rfl, hb11⟩
  have B211 := then_ B210 hb11
  have r11 := r10.step hb11
  have s0 := keepC s0 hb11
  have s1' := keepC s1' hb11
  have hW10 := then_ hW2 B211
  have ra10 := ha.step hW10
  go_wp2_with fail
  refine (toPicture_any s1 A n c xs _ hn ra10).mono ?_
  rintro e v12 ⟨A12, rfl, ho12, hb12⟩
  have r13 := Rd.of_own colC_len ha.1 ho12
  go_wp2_with fail
  refine (KI.out _ _ _ r13).mono ?_
  rintro e w15 ⟨B12, d12, rfl, o12, hb13⟩
  have hwc := then_ hb12 hb13
  have r12 : Rd bsC 1 w15 w15.heap.size B12 gs.length gs := Rd.of_own bsC_len rfl o12
  have q11 := r11.step hwc
  have B215 := then_ B211 hwc
  have r615 := r6.step B215
  clear o12 hwc B210 B211 r11 hb11 hW10 ra10 hb12 hb13 ho12 r13 r10 s0 s1'
  go_wp2_with fail
  refine (eqStringS_any _ _ _ _ _ gs _ hm' r12 r615).mono ?_
  rintro e w16 ⟨rfl, hb16⟩
  have q16 := q11.step hb16
  have B216 := then_ B215 hb16
  clear q11 B215 hb16 r12 r615
  go_wp2_with fail
  refine (heldStringS_any B8 _ _ 1 _ hm (by omega) (by omega) q16).mono ?_
  rintro e w17 ⟨rfl, hb17⟩
  have hW17 := then_ hW2 (then_ B216 hb17)
  go_wp2
  go_ret
  exact ⟨rfl, hW17⟩

theorem lawFmt (A : Option Addr) (s1 : Int) (n c : Nat) (xs : List Col) (w : World) (hn : n ≤ maxLen) (ha : Rd colC 3 w w.heap.size A n xs) :
    Calls Try.prog 6 #[.agg #[.int .i64 s1, .slice A n c]] w fun e w' => e = .returned (.bool true) ∧ Below w.heap.size w w' := by
  by_cases h1 : (n : Int) ≤ 1048576
  · exact lawFmt_go A s1 n c xs w (by omega) ha
  · have L1 := Lib.hid (left_no h1)
    go_enter Try.func6, Try.ntmps6
    go_wp2_with fail
    refine (szPicture_any s1 A n c _ _ hn (by omega) (by omega)).mono ?_
    rintro e w1 ⟨rfl, hb1⟩
    rw [L1.out]
    go_wp2
    go_ret
    exact ⟨rfl, by (repeat (first | with_reducible assumption | exact Below.refl _ _ | (refine Below.setCell ?_ (by first | exact Nat.le_refl _ | (simp; done) | omega | (simp; omega)) _) | (refine below_drewN ?_ _) | (refine Below.drew ?_) | (refine Below.alloc ?_ (by first | exact Nat.le_refl _ | (simp; done) | omega | (simp; omega)) _) | (refine then_ ?_ (by with_reducible assumption)) | assumption | (refine then_ ?_ (by assumption))))⟩

namespace fnExactFormatPicture
theorem cells_pic : Try.prog.cellsOf 24 = 2 := by kernel_rfl
theorem own : ownKnob Try.prog.godebug = none := by kernel_rfl
theorem laidOut : laidOutB Try.prog = true := by kernel_rfl
set_option maxRecDepth 100000 in
theorem lifted (os : Os) (started : os.Started) (H : Type) (enc : TypeId × Value → H) :
    ReturnsInHanded {} Try.checked os 6 .any (Rows.fnExactFormatPictureSpec.pre6 enc Try.prog Try.f6 Rows.fnExactFormatPictureRow.domain false) (Rows.fnExactFormatPictureSpec.post enc Try.prog Try.f6 false true false false) := by
  refine returnsInHanded_of_change (C := Try.checked) own started (by kernel_rfl) Try.func6
    (ChangeSpec.witness6 (enc := enc) (C := Try.checked) false ⟨#[], #[.agg #[.int .i64 0, .slice none 0 0]], []⟩ 8 (by kernel_rfl) (by kernel_rfl) (by kernel_rfl) (by kernel_rfl)) ?_
  intro W base args ds gs before hval0 hW hcnd _
  have hval : ∀ (j : Nat) t v, Try.f6.params[j]? = some t → args[j]? = some v → Value.okWide Try.prog W .any base t v := hval0
  have hW' := hW
  obtain ⟨p, q, hA0, hV, rfl, hfz, hnd⟩ := hW
  have hA : DataW.TrodAll enc Try.prog W 0 (fun _ => true) true Try.f6.params.toList args.toList ds p := hA0
  rw [Try.params6] at hA hval
  obtain ⟨v0, vs0, d0, ds0, p0, q0, hargs, rfl, rfl, h0, r0⟩ := trodAll_cons hA
  obtain ⟨rfl, rfl, rfl⟩ := trodAll_nil r0
  obtain rfl : args = #[v0] := by cases args; simp_all
  obtain ⟨rfl, rfl⟩ := trodVars_none hV
  have k0 := h0
  have lt0 : ∀ x ∈ p0, x.block < W.heap.size := by obtain ⟨m, hm⟩ := k0; exact DataW.trod_lt m _ _ _ hm
  obtain ⟨c2, c3, y2, y3, m', rfl, rfl, rfl, hy2, hy3⟩ := open_agg2 Try.underlying24 (by kernel_rfl) cells_pic (hval 0 24 v0 rfl rfl) h0
  obtain ⟨s1, e2, rfl, wb⟩ := DataW.trod_int Try.underlying3 hy2
  obtain ⟨A, n, c, xs, rfl, hn, ha⟩ := open_cols hy3
  simp at e2
  subst e2
  clear hA0 hval0
  refine (lawFmt A s1 n c xs W hn ha).mono fun e W' ⟨he, bel⟩ => ?_
  subst he
  exact ⟨_, rfl, _, _, _, [], _, [], hW', trodAll_mk1 (shut_bool Try.underlying4 _), (trodAll_cons_mk (Below.trod laidOut (by kernel_rfl) (of_decide_eq_true (by kernel_rfl)) k0 bel lt0) trodAll_mk0), rfl, bel.frame _, fun h => by cases h⟩

theorem and_mk {a b : Bool} (h : a = true) (k : b = true) : (a && b) = true := by rw [h, k]; rfl
set_option maxHeartbeats 40000000 in
theorem facts : joinedFacts Try.pinned.checked.prog 6 Try.f6 Rows.fnExactFormatPictureSpec Rows.fnExactFormatPictureRow = true := by
  unfold joinedFacts
  repeat (with_reducible refine and_mk ?_ ?_)
  all_goals (as_aux_lemma => kernel_rfl)
theorem named_ : Try.pinned.checked.prog.funcNamed Rows.fnExactFormatPictureRow.func = some 6 := by kernel_rfl
theorem over : Rows.fnExactFormatPictureRow.holds Try.pinned (OpenSpec.ofChange Rows.fnExactFormatPictureSpec) :=
  OpenClaim.holds_of_wide 6 Try.f6 rfl rfl rfl rfl rfl rfl rfl ⟨rfl, rfl, rfl, rfl, rfl⟩ rfl rfl rfl rfl rfl named_ Try.func6 facts
    (of_decide_eq_true (by kernel_rfl)) (by unfold Func.isWrapper; first | (rw [if_pos (by decide +kernel)]; kernel_rfl) | (rw [if_neg (by decide +kernel)]; exact ⟨rfl, rfl⟩))
    (fun os started H enc _ => lifted os started H enc)

theorem proved : Rows.FnExactFormatPictureSaid := over
end fnExactFormatPicture
end Go.Proofs.Ythlkpopmoodmgaa
