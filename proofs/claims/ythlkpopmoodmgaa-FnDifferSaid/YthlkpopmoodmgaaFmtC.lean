
/- FormatColour, both versions. -/
import Derived.Test.YthlkpopmoodmgaaFltM
import Derived.Test.YthlkpopmoodmgaaDrawP
import Derived.Test.YthlkpopmoodmgaaReg
import Derived.Test.YthlkpopmoodmgaaOwn
import Derived.Test.YthlkpopmoodmgaaKept
import Derived.Laws.IdiomStrings
import Derived.Laws.Strings
import Derived.Laws.Strings2
import Derived.Laws.Concat
namespace Go.Proofs.Ythlkpopmoodmgaa
open Go.RowKit
attribute [local go_sem] run_store_float run_store_complex

def digL : List UInt8 := [48, 49, 50, 51, 52, 53, 54, 55, 56, 57, 97, 98, 99, 100, 101, 102]
def digU (k : Nat) : UInt8 := digL.getD k 0
def digX (x : Nat) : Nat := min (stepB x) 15
def colS (c : Col) : List UInt8 := [digU (digX c.1), digU (digX c.2.1), digU (digX c.2.2)]
theorem digX_lt (x : Nat) : digX x < 16 := by unfold digX; omega
theorem run_hex {P : Program} (t : TypeId) (k : Nat) (hk : k < 16) (h : P.underlying t = some .string) (w : World) :
    (Instr.index t (.string ⟨#[48, 49, 50, 51, 52, 53, 54, 55, 56, 57, 97, 98, 99, 100, 101, 102]⟩) (.int .i64 (k : Int))).run P w = .ok (.int .u8 (digU k).toNat) w := by
  have hs : (ByteArray.mk #[48, 49, 50, 51, 52, 53, 54, 55, 56, 57, 97, 98, 99, 100, 101, 102]).size = 16 := rfl
  rw [run_index_string w t _ _ _ h, dif_pos ⟨by omega, by rw [hs]; omega⟩]
  have : ∀ k : Nat, (hk : k < 16) → (ByteArray.mk #[48, 49, 50, 51, 52, 53, 54, 55, 56, 57, 97, 98, 99, 100, 101, 102])[k]'hk = digU k := by clear hs; decide +revert
  simp only [Int.toNat_natCast, this k hk]
theorem run_hexS {P : Program} (t : TypeId) (k : Nat) (hk : k < 16) (h : P.underlying t = some .string) (w : World) :
    (Instr.slice t (.string ⟨#[48, 49, 50, 51, 52, 53, 54, 55, 56, 57, 97, 98, 99, 100, 101, 102]⟩) (some (.int .i64 (k : Int))) (some (.int .i64 ((k : Int) + 1))) none).run P w = .ok (.string ⟨[digU k].toArray⟩) w := by
  have hs : (ByteArray.mk #[48, 49, 50, 51, 52, 53, 54, 55, 56, 57, 97, 98, 99, 100, 101, 102]).size = 16 := rfl
  rw [run_slice_string w t _ _ _ _ _ h (by omega) (by omega) (by rw [hs]; omega)]
  have e : (ByteArray.mk #[48, 49, 50, 51, 52, 53, 54, 55, 56, 57, 97, 98, 99, 100, 101, 102]) = ByteArray.mk digL.toArray := rfl
  rw [e, ByteArray.extract_mk]
  have e1 : ((k : Int) + 1).toNat = k + 1 := by omega
  rw [e1, Int.toNat_natCast]
  have : ∀ k : Nat, k < 16 → (digL.drop k).take (k + 1 - k) = [digU k] := by decide
  rw [this k hk]

theorem l2Step_any (x : Nat) (w : World) (hx : partB x = true) :
    Calls Try.prog 108 #[.float .f32 x] w fun e w' => e = .returned (.int .i64 (digX x : Nat)) ∧ Dr w w' := by
  obtain ⟨y, h1, h2, h3, h4, h5⟩ := part_step hx
  have hc := fun wx => run_convert_float_int (P := Try.prog) wx 38 3 .f32 .i64 (cleanB y) _ (by rw [Try.underlying38]; rfl) Try.underlying3 h4
  rw [← h2] at hc
  obtain ⟨k, hk⟩ : ∃ k, k = stepB x := ⟨_, rfl⟩
  rw [← hk] at hc h5
  have D := Lib.hid (show digX x = min k 15 by unfold digX; rw [hk])
  obtain ⟨z, hz⟩ : ∃ z, z = mulB x 1098907648 := ⟨_, rfl⟩
  have Z := Lib.hid hz
  rw [← hz] at hc
  clear h1 h2 h3 h4 hk hz
  go_enter Try.func108, Try.ntmps108
  by_cases h15 : (k : Int) > 15
  · have e : min k 15 = 15 := by omega
    have E := Lib.hid e
    go_wp2_with (go_at_call 126; refine (l1Times_any _ _ _).mono ?_; rw [← Z.out]; rintro e w' ⟨rfl, n, rfl⟩)
    go_ret
    exact ⟨by rw [D.out, E.out]; rfl, n, rfl⟩
  · have e : min k 15 = k := by omega
    have E := Lib.hid e
    go_wp2_with (go_at_call 126; refine (l1Times_any _ _ _).mono ?_; rw [← Z.out]; rintro e w' ⟨rfl, n, rfl⟩)
    go_ret
    exact ⟨by rw [D.out, E.out]; rfl, n, rfl⟩
theorem l2Digit_any (k : Nat) (hk : k < 16) (w : World) :
    Calls Try.prog 107 #[.int .i64 (k : Int)] w fun e w' => e = .returned (.string ⟨[digU k].toArray⟩) ∧ w = w' := by
  have hx := fun wx => run_hexS (P := Try.prog) 9 k hk Try.underlying9 wx
  go_enter Try.func107, Try.ntmps107
  go_wp2
  go_ret
  exact ⟨rfl, rfl⟩

theorem strAdd {P : Program} (x y : List UInt8) (hx : x.length ≤ 8388608) (hy : y.length ≤ 8388608) (w : World) : (Op.stringOp .add ⟨x.toArray⟩ ⟨y.toArray⟩).run P w = .ok (.string ⟨(x ++ y).toArray⟩) w :=
  run_string_add_lists w x y (by omega) (by omega)

set_option maxRecDepth 100000 in
set_option maxHeartbeats 4000000 in
theorem specFormatColour_any (r g b : Nat) (w : World) (hc : colB (r, g, b) = true) :
    Calls Try.prog 70 #[.agg #[.float .f32 r, .float .f32 g, .float .f32 b]] w fun e w' => e = .returned (.string ⟨(colS (r, g, b)).toArray⟩) ∧ Below w.heap.size w w' := by
  have hp := hc
  unfold colB at hp
  simp only [Bool.and_eq_true] at hp
  obtain ⟨p1, p2, p3⟩ := hp
  have s1 := fun w => l2Step_any r w p1
  have s2 := fun w => l2Step_any g w p2
  have s3 := fun w => l2Step_any b w p3
  have d1 := fun w => l2Digit_any (digX r) (digX_lt r) w
  have d2 := fun w => l2Digit_any (digX g) (digX_lt g) w
  have d3 := fun w => l2Digit_any (digX b) (digX_lt b) w
  have R : colS (r, g, b) = ([digU (digX r)] ++ [digU (digX g)]) ++ [digU (digX b)] := rfl
  have R := Lib.hid R
  generalize digX r = x1 at *
  generalize digX g = x2 at *
  generalize digX b = x3 at *
  have a1 := fun wx => strAdd (P := Try.prog) [digU x1] [digU x2] (by simp) (by simp) wx
  have a2 := fun wx => strAdd (P := Try.prog) ([digU x1] ++ [digU x2]) [digU x3] (by simp) (by simp) wx
  have A1 := Lib.hid a1
  have A2 := Lib.hid a2
  obtain ⟨u1, hu1⟩ : ∃ u, u = ByteArray.mk [digU x1].toArray := ⟨_, rfl⟩
  obtain ⟨u2, hu2⟩ : ∃ u, u = ByteArray.mk [digU x2].toArray := ⟨_, rfl⟩
  obtain ⟨u3, hu3⟩ : ∃ u, u = ByteArray.mk [digU x3].toArray := ⟨_, rfl⟩
  obtain ⟨u4, hu4⟩ : ∃ u, u = ByteArray.mk ([digU x1] ++ [digU x2]).toArray := ⟨_, rfl⟩
  obtain ⟨u5, hu5⟩ : ∃ u, u = ByteArray.mk (([digU x1] ++ [digU x2]) ++ [digU x3]).toArray := ⟨_, rfl⟩
  rw [← hu1, ← hu2, ← hu4] at a1
  rw [← hu4, ← hu3, ← hu5] at a2
  rw [← hu1] at d1
  rw [← hu2] at d2
  rw [← hu3] at d3
  rw [R.out, ← hu5]
  have S1 := Lib.hid s1
  have S2 := Lib.hid s2
  have S3 := Lib.hid s3
  have D1 := Lib.hid d1
  have D2 := Lib.hid d2
  have D3 := Lib.hid d3
  clear s1 s2 s3 d1 d2 d3 hu1 hu2 hu3 hu4 hu5 p1 p2 p3 A1 A2 R
  go_enter Try.func70, Try.ntmps70
  go_wp2_with fail
  refine (specIsColour_any r g b _).mono ?_
  rw [hc]
  rintro e w1 ⟨rfl, hb1⟩
  have kc_0 := keepC (p := ⟨w.heap.size, 0, none⟩) (v := .float .f32 r) (by first | assumption | (simp [go_sem]; done) | (simp [go_sem, *]; done)) hb1; have kc_1 := keepC (p := ⟨w.heap.size, 1, none⟩) (v := .float .f32 g) (by first | assumption | (simp [go_sem]; done) | (simp [go_sem, *]; done)) hb1; have lb_ := (show w.heap.size < _ from World.block_lt_of_cell? _ _ kc_0)
  have kc_2 := keepC (p := ⟨w.heap.size, 2, none⟩) (v := .float .f32 b) (by simp [go_sem]) hb1
  have hW1 : Below w.heap.size w w1 := by (repeat (first | with_reducible assumption | exact Below.refl _ _ | (refine Below.setCell ?_ (by first | exact Nat.le_refl _ | (simp; done) | omega | (simp; omega)) _) | (refine below_drewN ?_ _) | (refine Below.drew ?_) | (refine Below.alloc ?_ (by first | exact Nat.le_refl _ | (simp; done) | omega | (simp; omega)) _) | (refine then_ ?_ (by with_reducible assumption)) | assumption | (refine then_ ?_ (by assumption))))
  clear hb1
  go_wp2_with fail
  go_region_held3 (fun w' => (∀ b o, b < w1.heap.size → w'.cell? ⟨b, o, none⟩ = w1.cell? ⟨b, o, none⟩) ∧ Below w1.heap.size w1 w') (first | assumption | exact startS _ | exact stepS (by assumption) (by assumption)) (first | (go_at_call 108; (with_reducible refine (S1.out _).mono ?_); rintro e w' ⟨rfl, hd⟩; replace hd := hd.below) | (go_at_call 108; (with_reducible refine (S2.out _).mono ?_); rintro e w' ⟨rfl, hd⟩; replace hd := hd.below) | (go_at_call 108; (with_reducible refine (S3.out _).mono ?_); rintro e w' ⟨rfl, hd⟩; replace hd := hd.below) | (go_at_call 107; (with_reducible refine (D1.out _).mono ?_); rintro e w' ⟨rfl, rfl⟩) | (go_at_call 107; (with_reducible refine (D2.out _).mono ?_); rintro e w' ⟨rfl, rfl⟩) | (go_at_call 107; (with_reducible refine (D3.out _).mono ?_); rintro e w' ⟨rfl, rfl⟩))
  go_wp2
  go_ret
  refine ⟨rfl, then_ hW1 ?_⟩
  apply And.right
  assumption

def fltC (x : Nat) : List Value := [.float .f32 x]
theorem fltC_len (x : Nat) : (fltC x).length = 1 := rfl
theorem Rd.flt {w : World} {B : Nat} {A : Option Addr} {n k : Nat} {xs : List Nat} (h : Rd fltC 1 w B A n xs) (hk : k < n) :
    ∃ b off x, A = some ⟨b, off, none⟩ ∧ b < B ∧ xs[k]? = some x ∧ w.cell? ⟨b, off + k, none⟩ = some (.float .f32 x) := by
  obtain ⟨b, off, x, e, hb, hx, hc⟩ := h.at_ hk
  have := hc 0 _ rfl
  rw [Nat.mul_one, Nat.add_zero] at this
  exact ⟨b, off, x, e, hb, hx, this⟩
theorem Rd.gro1 {α : Type} {enc : α → List Value} {sz : Nat} {w w' : World} {B f n : Nat} {xs : List α} {row : Option Nat} {o : Nat} (h : Rd enc sz w B (some ⟨f, o, none⟩) n xs) (hg : w.grownBy w' row) (hlt : f < w.heap.size) (hne : row ≠ some f) :
    Rd enc sz w' B (some ⟨f, o, none⟩) n xs :=
  ⟨h.1, fun hn => by
    obtain ⟨b, off, e, hb, hc⟩ := h.2 hn
    injection e with e
    injection e with e1 e2
    subst e1 e2
    exact ⟨f, o, rfl, hb, fun k x hx j u hu => (World.cell?_of_block (hg.block f hlt (fun e => hne e.symm))).trans (hc k x hx j u hu)⟩⟩
theorem infoByte : (Try.prog.info? 5).map (fun i => (i.zero, i.size, i.bytes)) = some (some (.int .u8 0), 1, 1) := by kernel_rfl
def digI (x : Nat) : Int := (digU (digX x)).toNat
def digsI (xs : List Nat) : List Int := xs.map digI

set_option maxRecDepth 100000 in
set_option maxHeartbeats 4000000 in
theorem formatColour_any (r g b : Nat) (w : World) (hc : colB (r, g, b) = true) :
    Calls Try.prog 71 #[.agg #[.float .f32 r, .float .f32 g, .float .f32 b]] w fun e w' => e = .returned (.string ⟨(colS (r, g, b)).toArray⟩) ∧ Below w.heap.size w w' := by
  obtain ⟨i0, hi, hz0, hz1, hz2⟩ := info_parts infoByte
  have hp := hc
  unfold colB at hp
  simp only [Bool.and_eq_true] at hp
  obtain ⟨p1, p2, p3⟩ := hp
  have PP : ∀ (k : Nat) (x : Nat), [r, g, b][k]? = some x → partB x = true := by
    intro k x hx
    have := List.mem_of_getElem? hx
    simp at this
    rcases this with rfl | rfl | rfl <;> assumption
  have PP := Lib.hid PP
  clear p1 p2 p3
  go_enter Try.func71, Try.ntmps71
  go_wp2_with fail
  refine (isColour_any r g b _).mono ?_
  rw [hc]
  rintro e w1 ⟨rfl, hb1⟩
  have kc_0 := keepC (p := ⟨w.heap.size, 0, none⟩) (v := .float .f32 r) (by first | assumption | (simp [go_sem]; done) | (simp [go_sem, *]; done)) hb1; have kc_1 := keepC (p := ⟨w.heap.size, 1, none⟩) (v := .float .f32 g) (by first | assumption | (simp [go_sem]; done) | (simp [go_sem, *]; done)) hb1; have lb_ := (show w.heap.size < _ from World.block_lt_of_cell? _ _ kc_0)
  have kc_2 := keepC (p := ⟨w.heap.size, 2, none⟩) (v := .float .f32 b) (by simp [go_sem]) hb1
  have hW1 : Below w.heap.size w w1 := by (repeat (first | with_reducible assumption | exact Below.refl _ _ | (refine Below.setCell ?_ (by first | exact Nat.le_refl _ | (simp; done) | omega | (simp; omega)) _) | (refine below_drewN ?_ _) | (refine Below.drew ?_) | (refine Below.alloc ?_ (by first | exact Nat.le_refl _ | (simp; done) | omega | (simp; omega)) _) | (refine then_ ?_ (by with_reducible assumption)) | assumption | (refine then_ ?_ (by assumption))))
  clear hb1
  go_wp2_with fail
  obtain ⟨V, hVe⟩ : ∃ V, V = (w1.alloc (Obj.cells #[] 5)).alloc (Obj.cells #[.float .f32 r, .float .f32 g, .float .f32 b] 38) := ⟨_, rfl⟩
  have hV : Below w1.heap.size w1 V := by rw [hVe]; (repeat (first | with_reducible assumption | exact Below.refl _ _ | (refine Below.setCell ?_ (by first | exact Nat.le_refl _ | (simp; done) | omega | (simp; omega)) _) | (refine below_drewN ?_ _) | (refine Below.drew ?_) | (refine Below.alloc ?_ (by first | exact Nat.le_refl _ | (simp; done) | omega | (simp; omega)) _) | (refine then_ ?_ (by with_reducible assumption)) | assumption | (refine then_ ?_ (by assumption))))
  have zV : V.heap.size = w1.heap.size + 2 := by rw [hVe]; simp
  have o0 : V.ownsRow w1.heap.size 5 1 (.slice (some ⟨w1.heap.size, 0, none⟩) 0 0) 0 [] := by
    rw [hVe]
    exact (World.ownsRow_lit (base := w1.heap.size) w1 #[] 0 (Nat.le_refl _) (by simp [maxLen]) rfl).alloc _
  have RF : Rd fltC 1 V V.heap.size (some ⟨w1.heap.size + 1, 0, none⟩) 3 [r, g, b] := by
    refine ⟨rfl, fun _ => ⟨_, _, rfl, by omega, ?_⟩⟩
    intro k x hx j u hu
    have hj : j = 0 := by
      have := (List.getElem?_eq_some_iff.1 hu).1
      simp [fltC] at this; exact this
    subst hj
    simp [fltC] at hu
    subst hu
    rw [hVe]
    match k, hx with
    | 0, hx => simp at hx; subst hx; simp [go_sem]
    | 1, hx => simp at hx; subst hx; simp [go_sem]
    | 2, hx => simp at hx; subst hx; simp [go_sem]
  rw [← hVe]
  clear hVe
  have O0 := Lib.hid o0
  clear o0
  go_loopw [3, 18] (fun v i wr => ∃ k : Nat, k ≤ 3 ∧ i = .int .i64 k ∧ (∃ A c, v = .slice A k c) ∧ wr.ownsRow w1.heap.size 5 1 v k (flat byteC (digsI ([r, g, b].take k))) ∧ Off v (w1.heap.size + 1) ∧ Rd fltC 1 wr V.heap.size (some ⟨w1.heap.size + 1, 0, none⟩) 3 [r, g, b] ∧ V.heap.size ≤ wr.heap.size ∧ Below w1.heap.size w1 wr) (fun _ i _ => 3 - (intOf i).toNat)
  case atStart => exact ⟨0, by omega, rfl, ⟨_, _, rfl⟩, O0.out, by unfold Off Value.ownBlock; simp, RF, Nat.le_refl _, hV⟩
  case round =>
    clear RF O0 hV
    obtain ⟨k, hk, rfl, ⟨A1, c1, rfl⟩, hown, hoff, hrd, hsz, hw⟩ := hrel
    have OW := Lib.hid hown
    have OFF := Lib.hid hoff
    have RF := Lib.hid hrd
    clear hown hoff
    by_cases hlt : k < 3
    · obtain ⟨bb, off, x, e, _, hx, c0⟩ := hrd.flt hlt
      injection e with e
      injection e with e1 e2
      subst e1 e2
      rw [Nat.zero_add] at c0
      obtain ⟨y, h1, h2, h3, h4, h5⟩ := part_step (PP.out k x hx)
      have HX := Lib.hid hx
      have hm := fun wx => run_float_arith (P := Try.prog) wx .mul 38 .f32 x 1098907648 y h1
      have hcv := fun wx => run_convert_float_int (P := Try.prog) wx 38 3 .f32 .i64 y _ (by rw [Try.underlying38]; rfl) Try.underlying3 h3
      obtain ⟨j, hj⟩ : ∃ j, j = stepB x := ⟨_, rfl⟩
      rw [← hj] at hcv h5
      have D := Lib.hid (show digX x = min j 15 by unfold digX; rw [hj])
      have hki : (k : Int) < 3 := by omega
      have hk0 : (0 : Int) ≤ (k : Int) := by omega
      have hx16 : min j 15 < 16 := by omega
      obtain ⟨u, hu⟩ : ∃ u : Int, u = ((digU (min j 15)).toNat : Int) := ⟨_, rfl⟩
      have hh := fun wx => run_hex (P := Try.prog) 9 (min j 15) hx16 Try.underlying9 wx
      rw [← hu] at hh
      have U := Lib.hid (show digI x = u by unfold digI; rw [D.out, hu])
      clear hrd h1 h2 h3 h4 hj hu hx
      by_cases h15 : (j : Int) ≤ 15
      · have e : min j 15 = j := by omega
        rw [e] at hh
        clear e D hx16
        go_wp2_with (at_builtin; refine wpList_append_own_at _ rfl _ _ 58 rfl w1.heap.size 5 i0 (.int .u8 0) 1 1 Try.underlying58 hi hz0 hz1 hz2 rfl (by decide) _ _ _ rfl (OW.out.alloc _) ⟨wr.heap.size, 0, none⟩ 1 1 [.int .u8 u] rfl rfl ?c13 ?c23 ?c33 ?c43 ?c53 ?_; (case c13 => exact World.news_of_block (cs := #[.int .u8 u]) (t := 5) (fr := (0, 0)) (heap_alloc_new wr _)); (case c23 => simp [Value.oneCell']); (case c33 => unfold maxLen; omega); (case c43 => omega); (case c53 => (have := Below.size hw; simp only [World.size_alloc]; omega)); intro v3 w3 hown3 hg3 hne3 hat3; simp only [World.size_alloc] at hat3; have GB3 := Lib.hid hg3; have OW3 := Lib.hid hown3; have BW3 := below_append hw OW.out hg3; have NB3 := Lib.hid hat3; clear hown3 hg3 hne3 hat3)
        go_roundw
        case rel =>
          obtain ⟨A3, c3, rfl⟩ := owns_slice OW3.out
          have hA := (show Below wr.heap.size wr (wr.alloc (Obj.cells #[.int .u8 u] 5)) by (repeat (first | with_reducible assumption | exact Below.refl _ _ | (refine Below.setCell ?_ (by first | exact Nat.le_refl _ | (simp; done) | omega | (simp; omega)) _) | (refine below_drewN ?_ _) | (refine Below.drew ?_) | (refine Below.alloc ?_ (by first | exact Nat.le_refl _ | (simp; done) | omega | (simp; omega)) _) | (refine then_ ?_ (by with_reducible assumption)) | assumption | (refine then_ ?_ (by assumption)))))
          refine ⟨k + 1, by omega, by go_num, ⟨_, _, rfl⟩, ?_, OFF.out.next (by omega) NB3.out, ?_, ?_, BW3⟩
          · rw [List.take_add_one, HX.out]
            have e : flat byteC (digsI ([r, g, b].take k ++ (some x).toList)) = flat byteC (digsI ([r, g, b].take k)) ++ [.int .u8 u] := by
              unfold digsI
              rw [List.map_append, flat_append, ← U.out]
              rfl
            rw [e]
            exact OW3.out
          · exact Rd.gro1 (Rd.gro1 RF.out (grown_of_below hA none) (by omega) (by simp)) GB3.out (by simp only [World.size_alloc]; omega) OFF.out
          · have := GB3.out.size
            simp only [World.size_alloc] at this
            omega
        case measure => simp [intOf]; omega
      · have h15' : (15 : Int) < (j : Int) := by omega
        clear h15
        have e : min j 15 = 15 := by omega
        rw [e] at hh
        have e15 : ((15 : Nat) : Int) = 15 := rfl
        rw [e15] at hh
        clear e e15 D hx16
        go_wp2_with (at_builtin; refine wpList_append_own_at _ rfl _ _ 58 rfl w1.heap.size 5 i0 (.int .u8 0) 1 1 Try.underlying58 hi hz0 hz1 hz2 rfl (by decide) _ _ _ rfl (OW.out.alloc _) ⟨wr.heap.size, 0, none⟩ 1 1 [.int .u8 u] rfl rfl ?c13 ?c23 ?c33 ?c43 ?c53 ?_; (case c13 => exact World.news_of_block (cs := #[.int .u8 u]) (t := 5) (fr := (0, 0)) (heap_alloc_new wr _)); (case c23 => simp [Value.oneCell']); (case c33 => unfold maxLen; omega); (case c43 => omega); (case c53 => (have := Below.size hw; simp only [World.size_alloc]; omega)); intro v3 w3 hown3 hg3 hne3 hat3; simp only [World.size_alloc] at hat3; have GB3 := Lib.hid hg3; have OW3 := Lib.hid hown3; have BW3 := below_append hw OW.out hg3; have NB3 := Lib.hid hat3; clear hown3 hg3 hne3 hat3)
        go_roundw
        case rel =>
          obtain ⟨A3, c3, rfl⟩ := owns_slice OW3.out
          have hA := (show Below wr.heap.size wr (wr.alloc (Obj.cells #[.int .u8 u] 5)) by (repeat (first | with_reducible assumption | exact Below.refl _ _ | (refine Below.setCell ?_ (by first | exact Nat.le_refl _ | (simp; done) | omega | (simp; omega)) _) | (refine below_drewN ?_ _) | (refine Below.drew ?_) | (refine Below.alloc ?_ (by first | exact Nat.le_refl _ | (simp; done) | omega | (simp; omega)) _) | (refine then_ ?_ (by with_reducible assumption)) | assumption | (refine then_ ?_ (by assumption)))))
          refine ⟨k + 1, by omega, by go_num, ⟨_, _, rfl⟩, ?_, OFF.out.next (by omega) NB3.out, ?_, ?_, BW3⟩
          · rw [List.take_add_one, HX.out]
            have e : flat byteC (digsI ([r, g, b].take k ++ (some x).toList)) = flat byteC (digsI ([r, g, b].take k)) ++ [.int .u8 u] := by
              unfold digsI
              rw [List.map_append, flat_append, ← U.out]
              rfl
            rw [e]
            exact OW3.out
          · exact Rd.gro1 (Rd.gro1 RF.out (grown_of_below hA none) (by omega) (by simp)) GB3.out (by simp only [World.size_alloc]; omega) OFF.out
          · have := GB3.out.size
            simp only [World.size_alloc] at this
            omega
        case measure => simp [intOf]; omega
    · obtain rfl : k = 3 := by omega
      have e3 : digsI ([r, g, b].take 3) = (colS (r, g, b)).map (fun (u : UInt8) => ((u.toNat : Nat) : Int)) := rfl
      have CL : (colS (r, g, b)).length = 3 := rfl
      have own := OW.out
      rw [e3] at own
      obtain ⟨gg, rfl, _, _⟩ := owns_slice_at own (by omega)
      obtain ⟨l, hl⟩ : ∃ l, l = colS (r, g, b) := ⟨_, rfl⟩
      rw [← hl] at CL own
      have HL := Lib.hid hl
      clear hl
      have hcv := run_convert_bytes_back (P := Try.prog) wr 58 9 5 ⟨gg, 0, none⟩ c1 l Try.underlying58 Try.underlying5 Try.underlying9 (fun j hj => by
        have h := own.cells (g := gg) rfl j (.int .u8 (l[j].toNat : Int)) (by
          have := flat_get (enc := byteC) (sz := 1) (fun _ => rfl) (l.map (fun (u : UInt8) => ((u.toNat : Nat) : Int))) j ((l[j].toNat : Nat) : Int) (by simp [hj]) 0 _ rfl
          simpa using this)
        exact h)
      rw [CL] at hcv
      clear own OW
      go_wp2
      go_ret
      exact ⟨by rw [← HL.out]; rfl, then_ hW1 hw⟩
end Go.Proofs.Ythlkpopmoodmgaa
