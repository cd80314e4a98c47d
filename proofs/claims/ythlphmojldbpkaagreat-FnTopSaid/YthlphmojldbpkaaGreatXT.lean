/- What TopLaw needs beside the other texts: Mem · GeoI · CellTo · First · IsPic · Act · SpreadP · CellsP · PicP · MirP · MirS · PicL · TakeL · InvL · DrawPic · TakenL · Spread · Sort · Sort2 · SortQ · Orb · OrbQ · PlaceD · Open · SeenL -/
import Derived.Test.YthlphmojldbpkaaGreatM0
import Derived.Test.YthlphmojldbpkaaGreatM1
import Derived.Test.YthlphmojldbpkaaGreatTick
import Derived.Test.YthlphmojldbpkaaGreatM3
import Derived.Test.YthlphmojldbpkaaGreatFltQ
import Derived.Test.YthlphmojldbpkaaGreatFltR
import Derived.Test.YthlphmojldbpkaaGreatM6
import Derived.Test.YthlphmojldbpkaaGreatDrawEv
import Derived.Test.YthlphmojldbpkaaGreatM8
import Derived.Test.YthlphmojldbpkaaGreatHap
import Derived.Test.YthlphmojldbpkaaGreatHapP
import Derived.Test.YthlphmojldbpkaaGreatHapT
import Derived.Test.YthlphmojldbpkaaGreatHapA
import Derived.Test.YthlphmojldbpkaaGreatHapM
import Derived.Test.YthlphmojldbpkaaGreatHapW
import Derived.Test.YthlphmojldbpkaaGreatM15
import Derived.Test.YthlphmojldbpkaaGreatM16
import Derived.Test.YthlphmojldbpkaaGreatEvI
import Derived.Test.YthlphmojldbpkaaGreatSDoG
import Derived.Test.YthlphmojldbpkaaGreatMix
import Derived.Test.YthlphmojldbpkaaGreatSeen
import Derived.Test.YthlphmojldbpkaaGreatM21
import Derived.Test.YthlphmojldbpkaaGreatDoI
import Derived.Test.YthlphmojldbpkaaGreatM23
import Derived.Test.YthlphmojldbpkaaGreatSpT
import Derived.Test.YthlphmojldbpkaaGreatM25
import Derived.Test.YthlphmojldbpkaaGreatSWait
import Derived.Test.YthlphmojldbpkaaGreatM27
import Derived.Test.YthlphmojldbpkaaGreatM28
import Derived.Test.YthlphmojldbpkaaGreatM29
import Derived.Test.YthlphmojldbpkaaGreatDoS
import Derived.Test.YthlphmojldbpkaaGreatRunI
import Derived.Test.YthlphmojldbpkaaGreatM32
import Derived.Test.YthlphmojldbpkaaGreatDrawSB
import Derived.Test.YthlphmojldbpkaaGreatDrawShow
import Derived.Test.YthlphmojldbpkaaGreatM35
import Derived.Test.YthlphmojldbpkaaGreatM36
import Derived.Test.YthlphmojldbpkaaGreatM37
import Derived.Test.YthlphmojldbpkaaGreatM38
import Derived.Test.YthlphmojldbpkaaGreatSeenIn
import Derived.Deep.AppendLies
import Derived.Deep.RegionHeld3
import Derived.Deep.DeepCutAuto
import Derived.Deep.RegionLaw
import Derived.Laws.StructEq
import Derived.Lib.Tables
import Derived.ProofKit
import Derived.ChangeOld
import Derived.Deep.Slices
import Derived.Lib.SmallJoins
/- Mem -/
/- Memory: a slice that reads as a list, whatever its elements' cells. No program. -/
namespace Go.Proofs.YthlphmojldbpkaaGreat
open Go.RowKit
section
variable {α : Type} {enc : α → List Value} {sz : Nat} {w w' : World} {B B' : Nat} {A : Option Addr} {n : Nat} {xs : List α}
end
def cxC (z : Nat × Nat) : List Value := [.complex .f32 z.1 z.2]
theorem cxC_len (z : Nat × Nat) : (cxC z).length = 1 := rfl
end Go.Proofs.YthlphmojldbpkaaGreat
/- GeoI -/
/- Points with small whole parts: what symmetries make of them; the cell to which a symmetry takes a cell. No program. -/
namespace Go.Proofs.YthlphmojldbpkaaGreat
theorem rot_small {p : Int × Int} (h : Sm 8 p) : rotB (flP p) = flP (rI p) := by
  obtain ⟨a, c, d, e⟩ := h
  unfold rotB flP rI
  rw [(small_at p.2 d e).1]
theorem rotN_small {p : Int × Int} (h : Sm 8 p) : ∀ n, rotN n (flP p) = flP (rIN n p)
  | 0 => rfl
  | n + 1 => by
    show rotB (rotN n (flP p)) = flP (rI (rIN n p))
    rw [rotN_small h n, rot_small (rIN_sm h n)]
theorem flipB_false (y : Nat) : flipB false y = y := rfl
theorem flipB_true (y : Nat) : flipB true y = subB 0 y := rfl
theorem rotN_flip {p : Int × Int} (h : Sm 8 p) (n : Nat) (f : Bool) : rotN n (fl p.1, flipB f (fl p.2)) = flP (rIN n (p.1, if f then -p.2 else p.2)) := by
  obtain ⟨x, y⟩ := p
  obtain ⟨a, c, d, e⟩ := h
  dsimp only at a c d e ⊢
  cases f
  · rw [flipB_false]
    simp only [Bool.false_eq_true, if_false]
    have := rotN_small (p := (x, y)) ⟨a, c, d, e⟩ n
    rw [← this]
    simp only [flP]
  · rw [flipB_true, (small_at y d e).1]
    simp only [if_true]
    have := rotN_small (p := (x, -y)) ⟨a, c, by show -8 ≤ -y; omega, by show -y ≤ 8; omega⟩ n
    rw [← this]
    simp only [flP]
theorem actI_small {p : Int × Int} (h : Sm 8 p) (t : Int) (f : Bool) : actI t f (fl p.1) (fl p.2) = flP (aI t f p) := by
  have hs := aI_sm h t f
  have hq : rotN t.toNat (fl p.1, flipB f (fl p.2)) = flP (aI t f p) := rotN_flip h _ f
  obtain ⟨a, c, d, e⟩ := hs
  unfold actI
  rw [hq]
  simp only [flP]
  rw [(small_at _ a c).2.2.1, (small_at _ d e).2.2.1]
theorem point_small {p : Int × Int} (h : Sm 8 p) : pointB (fl p.1) (fl p.2) = true := by
  obtain ⟨a, c, d, e⟩ := h
  unfold pointB
  rw [(small_at p.1 a c).2.2.2.1, (small_at p.2 d e).2.2.2.1]
  rfl
end Go.Proofs.YthlphmojldbpkaaGreat
/- CellTo -/
/- The walks of CellTo, both versions. -/
namespace Go.Proofs.YthlphmojldbpkaaGreat
open Go.RowKit
theorem toCell_bd {size : Int} {q : Int × Int} (h1 : 1 ≤ size) (h2 : size ≤ 8) (h : Sm (size - 1) q) : 0 ≤ (size - 1 - q.2) / 2 ∧ (size - 1 - q.2) / 2 ≤ 7 ∧ 0 ≤ (q.1 + size - 1) / 2 ∧ (q.1 + size - 1) / 2 ≤ 7 ∧
    0 ≤ ((size - 1 - q.2) / 2) * size ∧ ((size - 1 - q.2) / 2) * size ≤ 7 * 8 := by
  obtain ⟨a, b, c, d⟩ := h
  refine ⟨by omega, by omega, by omega, by omega, Int.mul_nonneg (by omega) (by omega), Int.mul_le_mul (by omega) h2 (by omega) (by omega)⟩
theorem placeOf_no (size cell : Int) (w : World) (h : okCell size cell = false) :
    Calls Tryz.prog 83 #[.int .i64 size, .int .i64 cell] w fun e w' => e = .returned (.tuple #[.complex .f32 0 0, .bool false]) ∧ Dr w w' :=
  (placeOf_any size cell w).mono fun e w' ⟨he, hd⟩ => ⟨by rw [he]; unfold placeV; rw [h]; rfl, hd⟩
set_option maxRecDepth 10000 in
set_option maxHeartbeats 1000000 in
theorem cellTo_any (size cell t : Int) (f : Bool) (w : World) :
    Calls Tryz.prog 86 #[.int .i64 size, .int .i64 cell, .agg #[.int .i64 t, .bool f]] w fun e w' => e = .returned (.int .i64 (cellV size cell t f)) ∧ Below w.heap.size w w' := by
  have r : cellV size cell t f = if okCell size cell && inB t 0 3 then cellI size cell t f else -1 := rfl
  cases hk : okCell size cell
  · rw [hk] at r
    have R := Lib.hid r
    have K := Lib.hid hk
    clear r hk
    go_enter Tryz.func86, Tryz.ntmps86
    go_wp2_with (go_at_call 83; refine (placeOf_no _ _ _ K.out).mono ?_; rintro e w' ⟨rfl, n, rfl⟩)
    go_ret
    exact ⟨by rw [R.out]; rfl, by (repeat (first | with_reducible assumption | exact Below.refl _ _ | (refine Below.setCell ?_ (by first | exact Nat.le_refl _ | (simp; done) | omega | (simp; omega)) _) | (refine below_drewN ?_ _) | (refine Below.drew ?_) | (refine Below.alloc ?_ (by first | exact Nat.le_refl _ | (simp; done) | omega | (simp; omega)) _) | (refine then_ ?_ (by with_reducible assumption)) | assumption | (refine then_ ?_ (by assumption))))⟩
  · cases ht : inB t 0 3
    · rw [hk, ht] at r
      have R := Lib.hid r
      have K := Lib.hid hk
      clear r hk
      go_enter Tryz.func86, Tryz.ntmps86
      go_wp2_with (first
        | (go_at_call 83; refine (placeOf_ok _ _ _ K.out).mono ?_; rintro e w' ⟨rfl, n, rfl⟩)
        | (go_at_call 59; refine (isSym_any _ _ _).mono ?_; rintro e w1 ⟨rfl, hb1⟩; simp only [ht]; obtain ⟨hc1, hf1⟩ := bcell hb1))
      go_ret
      exact ⟨by rw [R.out]; rfl, by (repeat (first | with_reducible assumption | exact Below.refl _ _ | (refine Below.setCell ?_ (by first | exact Nat.le_refl _ | (simp; done) | omega | (simp; omega)) _) | (refine below_drewN ?_ _) | (refine Below.drew ?_) | (refine Below.alloc ?_ (by first | exact Nat.le_refl _ | (simp; done) | omega | (simp; omega)) _) | (refine then_ ?_ (by with_reducible assumption)) | assumption | (refine then_ ?_ (by assumption))))⟩
    · rw [hk, ht] at r
      have hp := point_small ((ptI_sm hk).mono (c := 8) (by have := okCell_bd hk; omega))
      have hr := actI_small ((ptI_sm hk).mono (c := 8) (by have := okCell_bd hk; omega)) t f
      have hs := aI_sm (ptI_sm hk) t f
      obtain ⟨h1, h2, h3, h4, h5, h6⟩ := okCell_bd hk
      obtain ⟨b1, b2, b3, b4, b5, b6⟩ := toCell_bd h1 h2 hs
      have hq : cellV size cell t f = toCell size (aI t f (ptI size cell)) := r
      clear r
      generalize aI t f (ptI size cell) = q at *
      obtain ⟨x, y⟩ := q
      have R := Lib.hid (show cellV size cell t f = (size - 1 - y) / 2 * size + (x + size - 1) / 2 from hq)
      have A := Lib.hid hr
      have K := Lib.hid hk
      have H := Lib.hid h4
      obtain ⟨a, b, c, d⟩ := hs
      dsimp only at a b c d b1 b2 b3 b4 b5 b6
      clear hq hr hk h4 h6
      have k1 := fun wx => run_convert_float_int (P := Tryz.prog) wx 24 3 .f32 .i64 (fl x) x (by kernel_rfl) Tryz.underlying3 (small_at x (by omega) (by omega)).2.2.2.2
      have k2 := fun wx => run_convert_float_int (P := Tryz.prog) wx 24 3 .f32 .i64 (fl y) y (by kernel_rfl) Tryz.underlying3 (small_at y (by omega) (by omega)).2.2.2.2
      go_enter Tryz.func86, Tryz.ntmps86
      go_wp2_with (first
        | (go_at_call 83; refine (placeOf_ok _ _ _ K.out).mono ?_; rintro e w' ⟨rfl, n, rfl⟩)
        | (go_at_call 59; refine (isSym_any _ _ _).mono ?_; rintro e w1 ⟨rfl, hb1⟩; simp only [ht]; obtain ⟨hc1, hf1⟩ := bcell hb1)
        | (go_at_call 45; refine (actSym_ok _ _ _ _ _ ht hp).mono ?_; rintro e w2 ⟨rfl, hb2⟩; rw [A.out]; simp only [cxV, flP]))
      go_ret
      exact ⟨by rw [R.out]; rfl, by (repeat (first | with_reducible assumption | exact Below.refl _ _ | (refine Below.setCell ?_ (by first | exact Nat.le_refl _ | (simp; done) | omega | (simp; omega)) _) | (refine below_drewN ?_ _) | (refine Below.drew ?_) | (refine Below.alloc ?_ (by first | exact Nat.le_refl _ | (simp; done) | omega | (simp; omega)) _) | (refine then_ ?_ (by with_reducible assumption)) | assumption | (refine then_ ?_ (by assumption))))⟩
end Go.Proofs.YthlphmojldbpkaaGreat
/- First -/
/- firstCell, l4First: the least cell to which symmetries of mirrors lead. -/
namespace Go.Proofs.YthlphmojldbpkaaGreat
open Go.RowKit
attribute [local go_sem] run_store_float run_store_complex
theorem firstL_succ {l : List (Int × Bool)} {k : Nat} {t : Int} {f : Bool} (size cell : Int) (h : l[k]? = some (t, f)) : firstL l size cell (k + 1) = if cellV size cell t f < firstL l size cell k then cellV size cell t f else firstL l size cell k := by
  unfold firstL
  rw [List.take_add_one, h, List.foldl_append]
  rfl
set_option maxRecDepth 10000 in
set_option maxHeartbeats 2000000 in
theorem firstCell_any (kind size cell : Int) (w : World) :
    Calls Tryz.prog 40 #[.int .i64 kind, .int .i64 size, .int .i64 cell] w fun e w' => e = .returned (.int .i64 (firstI kind size cell)) ∧ Below w.heap.size w w' := by
  go_enter Tryz.func40, Tryz.ntmps40
  go_wp2_with (go_at_call 20; refine (symsOf_any _ _).mono ?_; rintro e w1 ⟨A, c, rfl, ho1, hb1⟩; have r1 := Rd.of_own symC_len rfl ho1; clear ho1)
  obtain ⟨l, L⟩ : ∃ l, Hid (l = symsL kind) := ⟨_, Lib.hid rfl⟩
  rw [← L.out] at r1 ⊢
  obtain ⟨n, hn⟩ : ∃ n, n = l.length := ⟨_, rfl⟩
  have hn8 : n ≤ 8 := by rw [hn, L.out]; exact symsUp_len _ _
  rw [← hn] at r1 ⊢
  have HN := Lib.hid hn
  clear hn
  go_loopw [7, 14] (fun v i wr => ∃ k : Nat, k ≤ n ∧ i = .int .i64 k ∧ v = .int .i64 (firstL l size cell k) ∧ Below w1.heap.size w1 wr) (fun _ i _ => n - (intOf i).toNat)
  case atStart => exact ⟨0, by omega, rfl, rfl, Below.refl _ _⟩
  case round =>
    obtain ⟨k, hk, rfl, rfl, hw⟩ := hrel
    by_cases hlt : k < n
    · obtain ⟨b, off, t, f, rfl, hbl, hx, h0, h1⟩ := (r1.below hw).sym hlt
      have F := Lib.hid (firstL_succ size cell hx)
      have hki : (k : Int) < (n : Int) := by omega
      have hk0 : (0 : Int) ≤ (k : Int) := by omega
      have hz := hw.size
      clear hx
      go_wp2_with (go_at_call 86; refine (cellTo_any _ _ _ _ _).mono ?_; rintro e w2 ⟨rfl, hb2⟩)
      go_roundw
      case rel => exact ⟨k + 1, by omega, by go_num, by rw [F.out], by (repeat (first | with_reducible assumption | exact Below.refl _ _ | (refine Below.setCell ?_ (by first | exact Nat.le_refl _ | (simp; done) | omega | (simp; omega)) _) | (refine below_drewN ?_ _) | (refine Below.drew ?_) | (refine Below.alloc ?_ (by first | exact Nat.le_refl _ | (simp; done) | omega | (simp; omega)) _) | (refine then_ ?_ (by with_reducible assumption)) | assumption | (refine then_ ?_ (by assumption))))⟩
      case measure => simp [intOf]; omega
    · obtain rfl : k = n := by omega
      go_wp2
      go_ret
      exact ⟨by unfold firstI; rw [← L.out, ← HN.out]; rfl, by (repeat (first | with_reducible assumption | exact Below.refl _ _ | (refine Below.setCell ?_ (by first | exact Nat.le_refl _ | (simp; done) | omega | (simp; omega)) _) | (refine below_drewN ?_ _) | (refine Below.drew ?_) | (refine Below.alloc ?_ (by first | exact Nat.le_refl _ | (simp; done) | omega | (simp; omega)) _) | (refine then_ ?_ (by with_reducible assumption)) | assumption | (refine then_ ?_ (by assumption))))⟩
end Go.Proofs.YthlphmojldbpkaaGreat
/- IsPic -/
/- IsPicture, both versions. -/
namespace Go.Proofs.YthlphmojldbpkaaGreat
open Go.RowKit
set_option maxHeartbeats 1000000 in
theorem isPicF_any (r g b : Nat) (w : World) :
    Calls Tryz.prog 51 #[.agg #[.float .f32 r, .float .f32 g, .float .f32 b]] w fun e w' => e = .returned (.bool (!colB (r, g, b))) ∧ Below w.heap.size w w' := by
  go_enter Tryz.func51, Tryz.ntmps51
  go_wp2_with (go_at_call 52; refine (isColour_any _ _ _ _).mono ?_; rintro e w' ⟨rfl, hb1⟩)
  go_ret
  exact ⟨rfl, by (repeat (first | with_reducible assumption | exact Below.refl _ _ | (refine Below.setCell ?_ (by first | exact Nat.le_refl _ | (simp; done) | omega | (simp; omega)) _) | (refine below_drewN ?_ _) | (refine Below.drew ?_) | (refine Below.alloc ?_ (by first | exact Nat.le_refl _ | (simp; done) | omega | (simp; omega)) _) | (refine then_ ?_ (by with_reducible assumption)) | assumption | (refine then_ ?_ (by assumption))))⟩
theorem all_no {xs : List Col} {i : Nat} {x : Col} (hx : xs[i]? = some x) (h : colB x = false) : xs.all colB = false := by
  rw [List.all_eq_false]
  exact ⟨x, List.mem_of_getElem? hx, by simp [h]⟩
set_option maxHeartbeats 1000000 in
theorem indexCol_any (A : Option Addr) (n c : Nat) (xs : List Col) (w : World) (hn : n ≤ maxLen) (ha : Rd colC 3 w w.heap.size A n xs) :
    Calls Tryz.prog 94 #[.slice A n c, .func (.func 51) #[] #[]] w fun e w' => (∃ i : Int, e = .returned (.int .i64 i) ∧ decide (0 ≤ i) = !(xs.all colB)) ∧ Below w.heap.size w w' := by
  unfold maxLen at hn
  go_enter Tryz.func94, Tryz.ntmps94
  go_wp2
  go_loopw [5, 8] (fun _ i wr => ∃ k : Nat, k ≤ n ∧ i = .int .i64 k ∧ (∀ (i : Nat) x, i < k → xs[i]? = some x → colB x = true) ∧ Below w.heap.size w wr) (fun _ i _ => n - (intOf i).toNat)
  case atStart => exact ⟨0, Nat.zero_le _, rfl, fun i x h => by omega, Below.refl _ _⟩
  case round =>
    obtain ⟨k, hk, rfl, hall, hw⟩ := hrel
    have HALL := Lib.hid hall
    clear hall
    by_cases hlt : k < n
    · obtain ⟨b, off, r, g, l, rfl, hbl, hx, h0, h1, h2⟩ := (ha.below hw).col hlt
      have hki : (k : Int) < (n : Int) := by omega
      have hk0 : (0 : Int) ≤ (k : Int) := by omega
      have HX := Lib.hid hx
      clear hx
      cases hq : colB (r, g, l)
      · go_wp2_with (go_at_call 51; refine (isPicF_any _ _ _ _).mono ?_; rintro e w1 ⟨rfl, hb1⟩; simp only [hq])
        go_ret
        exact ⟨⟨_, rfl, by rw [all_no HX.out hq]; simp⟩, by (repeat (first | with_reducible assumption | exact Below.refl _ _ | (refine Below.setCell ?_ (by first | exact Nat.le_refl _ | (simp; done) | omega | (simp; omega)) _) | (refine below_drewN ?_ _) | (refine Below.drew ?_) | (refine Below.alloc ?_ (by first | exact Nat.le_refl _ | (simp; done) | omega | (simp; omega)) _) | (refine then_ ?_ (by with_reducible assumption)) | assumption | (refine then_ ?_ (by assumption))))⟩
      · go_wp2_with (go_at_call 51; refine (isPicF_any _ _ _ _).mono ?_; rintro e w1 ⟨rfl, hb1⟩; simp only [hq])
        go_roundw
        case rel =>
          refine ⟨k + 1, by omega, by go_num, fun i x hi j1 => ?_, by (repeat (first | with_reducible assumption | exact Below.refl _ _ | (refine Below.setCell ?_ (by first | exact Nat.le_refl _ | (simp; done) | omega | (simp; omega)) _) | (refine below_drewN ?_ _) | (refine Below.drew ?_) | (refine Below.alloc ?_ (by first | exact Nat.le_refl _ | (simp; done) | omega | (simp; omega)) _) | (refine then_ ?_ (by with_reducible assumption)) | assumption | (refine then_ ?_ (by assumption))))⟩
          by_cases e : i = k
          · subst e
            rw [HX.out] at j1
            injection j1 with j1
            subst j1
            exact hq
          · exact HALL.out i x (by omega) j1
        case measure => simp [intOf]; omega
    · obtain rfl : k = n := by omega
      have hs : xs.all colB = true := all_yes (fun i x h1 => HALL.out i x (by have := (List.getElem?_eq_some_iff.1 h1).1; have := ha.1; omega) h1)
      go_wp2
      go_ret
      exact ⟨⟨-1, rfl, by rw [hs]; rfl⟩, hw⟩
theorem containsCol_any (A : Option Addr) (n c : Nat) (xs : List Col) (w : World) (hn : n ≤ maxLen) (ha : Rd colC 3 w w.heap.size A n xs) :
    Calls Tryz.prog 50 #[.slice A n c, .func (.func 51) #[] #[]] w fun e w' => e = .returned (.bool (!(xs.all colB))) ∧ Below w.heap.size w w' := by
  go_enter Tryz.func50, Tryz.ntmps50
  go_wp2_with (go_at_call 94; refine (indexCol_any _ _ _ xs _ hn ha).mono ?_; rintro e w1 ⟨⟨i, rfl, hi⟩, hb1⟩; have HI := Lib.hid hi; clear hi)
  go_ret
  exact ⟨by rw [← HI.out]; rfl, hb1⟩
set_option maxHeartbeats 1000000 in
theorem isPicture_any (s : Int) (A : Option Addr) (n c : Nat) (xs : List Col) (w : World) (hn : n ≤ maxLen) (ha : Rd colC 3 w w.heap.size A n xs) :
    Calls Tryz.prog 18 #[.agg #[.int .i64 s, .slice A n c]] w fun e w' => e = .returned (.bool (pictB s xs)) ∧ Below w.heap.size w w' := by
  have r : pictB s xs = (inB s 1 8 && (((xs.length : Int) == s * s) && xs.all colB)) := rfl
  rw [ha.1] at r
  cases h1 : inB s 1 8
  · rw [h1, Bool.false_and] at r
    have R := Lib.hid r
    clear r
    go_enter Tryz.func18, Tryz.ntmps18
    go_wp2_with (go_at_call 49; refine (within_any _ _ _ _).mono ?_; rintro e w' ⟨rfl, rfl⟩; simp only [h1])
    go_ret
    exact ⟨by rw [R.out]; rfl, by (repeat (first | with_reducible assumption | exact Below.refl _ _ | (refine Below.setCell ?_ (by first | exact Nat.le_refl _ | (simp; done) | omega | (simp; omega)) _) | (refine below_drewN ?_ _) | (refine Below.drew ?_) | (refine Below.alloc ?_ (by first | exact Nat.le_refl _ | (simp; done) | omega | (simp; omega)) _) | (refine then_ ?_ (by with_reducible assumption)) | assumption | (refine then_ ?_ (by assumption))))⟩
  · obtain ⟨b1, b2⟩ := inB_true h1
    have b3 : s * s ≤ 8 * 8 := Int.mul_le_mul b2 b2 (by omega) (by omega)
    have b4 : 1 * 1 ≤ s * s := Int.mul_le_mul b1 b1 (by omega) (by omega)
    rw [h1, Bool.true_and] at r
    cases h2 : ((n : Int) == s * s)
    · rw [h2, Bool.false_and] at r
      have R := Lib.hid r
      clear r
      go_enter Tryz.func18, Tryz.ntmps18
      go_wp2_with (go_at_call 49; refine (within_any _ _ _ _).mono ?_; rintro e w' ⟨rfl, rfl⟩; simp only [h1])
      go_ret
      exact ⟨by rw [R.out]; rfl, by (repeat (first | with_reducible assumption | exact Below.refl _ _ | (refine Below.setCell ?_ (by first | exact Nat.le_refl _ | (simp; done) | omega | (simp; omega)) _) | (refine below_drewN ?_ _) | (refine Below.drew ?_) | (refine Below.alloc ?_ (by first | exact Nat.le_refl _ | (simp; done) | omega | (simp; omega)) _) | (refine then_ ?_ (by with_reducible assumption)) | assumption | (refine then_ ?_ (by assumption))))⟩
    · rw [h2, Bool.true_and] at r
      have R := Lib.hid r
      clear r
      go_enter Tryz.func18, Tryz.ntmps18
      go_wp2_with (first
        | (go_at_call 49; refine (within_any _ _ _ _).mono ?_; rintro e w' ⟨rfl, rfl⟩; simp only [h1])
        | (go_at_call 50; refine (containsCol_any _ _ _ xs _ hn (ha.step ?_)).mono ?_; (repeat (first | with_reducible assumption | exact Below.refl _ _ | (refine Below.setCell ?_ (by first | exact Nat.le_refl _ | (simp; done) | omega | (simp; omega)) _) | (refine below_drewN ?_ _) | (refine Below.drew ?_) | (refine Below.alloc ?_ (by first | exact Nat.le_refl _ | (simp; done) | omega | (simp; omega)) _) | (refine then_ ?_ (by with_reducible assumption)) | assumption | (refine then_ ?_ (by assumption)))); rintro e w1 ⟨rfl, hb1⟩))
      go_ret
      exact ⟨by rw [R.out]; simp, by (repeat (first | with_reducible assumption | exact Below.refl _ _ | (refine Below.setCell ?_ (by first | exact Nat.le_refl _ | (simp; done) | omega | (simp; omega)) _) | (refine below_drewN ?_ _) | (refine Below.drew ?_) | (refine Below.alloc ?_ (by first | exact Nat.le_refl _ | (simp; done) | omega | (simp; omega)) _) | (refine then_ ?_ (by with_reducible assumption)) | assumption | (refine then_ ?_ (by assumption))))⟩
attribute [local go_sem] run_store_float run_store_complex
end Go.Proofs.YthlphmojldbpkaaGreat
/- Act -/
/- ActPicture, both versions. -/
namespace Go.Proofs.YthlphmojldbpkaaGreat
open Go.RowKit
attribute [local go_sem] run_store_float run_store_complex
theorem pict_bd {s : Int} {xs : List Col} (h : pictB s xs = true) : xs.length ≤ 64 ∧ 1 ≤ s ∧ s ≤ 8 ∧ (xs.length : Int) = s * s := by
  unfold pictB at h
  simp only [Bool.and_eq_true, beq_iff_eq] at h
  obtain ⟨h1, h2, h3⟩ := h
  obtain ⟨b1, b2⟩ := inB_true h1
  have b3 : s * s ≤ 8 * 8 := Int.mul_le_mul b2 b2 (by omega) (by omega)
  exact ⟨by omega, b1, b2, h2⟩
end Go.Proofs.YthlphmojldbpkaaGreat
/- SpreadP -/
/- SpreadPicture: what it computes; plain facts. -/
namespace Go.Proofs.YthlphmojldbpkaaGreat
open Go.RowKit
attribute [local go_sem] run_store_float run_store_complex
def spreadOk (kind s : Int) (xs : List Col) : Bool := inB kind 0 3 && pictB s xs
theorem spreadUp_succ {kind s : Int} {xs : List Col} {k q : Nat} {x : Col} (hq : firstI kind s k = (q : Int)) (hx : xs[q]? = some x) : spreadUp kind s xs (k + 1) = spreadUp kind s xs k ++ [x] := by
  unfold spreadUp
  rw [List.range_succ, List.map_append]
  simp only [List.map_cons, List.map_nil]
  rw [hq, Int.toNat_natCast, List.getD_eq_getElem?_getD, hx]; rfl
end Go.Proofs.YthlphmojldbpkaaGreat
/- CellsP -/
/- Cells and the symmetries that take them to cells: plain arithmetic. No program. -/
namespace Go.Proofs.YthlphmojldbpkaaGreat
def cellOk (s k g : Nat) : Bool :=
  let q := cellI (s + 1) k (sym8 g).1 (sym8 g).2
  okCell (s + 1) q && decide (ptI (s + 1) q = aI (sym8 g).1 (sym8 g).2 (ptI (s + 1) k)) && decide (cellI (s + 1) q (backP (sym8 g).1 (sym8 g).2).1 (backP (sym8 g).1 (sym8 g).2).2 = k)
def cellsOk : Bool := (List.range 8).all fun s => (List.range ((s + 1) * (s + 1))).all fun k => (List.range 8).all fun g => cellOk s k g
theorem cellsOk_true : cellsOk = true := by decide +kernel
theorem cells_all (s k g : Nat) (hs : s < 8) (hk : k < (s + 1) * (s + 1)) (hg : g < 8) :
    okCell (s + 1) (cellI (s + 1) k (sym8 g).1 (sym8 g).2) = true ∧ ptI (s + 1) (cellI (s + 1) k (sym8 g).1 (sym8 g).2) = aI (sym8 g).1 (sym8 g).2 (ptI (s + 1) k) ∧
    cellI (s + 1) (cellI (s + 1) k (sym8 g).1 (sym8 g).2) (backP (sym8 g).1 (sym8 g).2).1 (backP (sym8 g).1 (sym8 g).2).2 = k := by
  have h := cellsOk_true
  unfold cellsOk at h
  have h1 := List.all_eq_true.1 h s (List.mem_range.2 hs)
  have h2 := List.all_eq_true.1 h1 k (List.mem_range.2 hk)
  have h3 := List.all_eq_true.1 h2 g (List.mem_range.2 hg)
  simp only [cellOk, Bool.and_eq_true, decide_eq_true_eq] at h3
  exact ⟨h3.1.1, h3.1.2, h3.2⟩
theorem back_ok : ∀ g : Nat, g < 8 → inB (backP (sym8 g).1 (sym8 g).2).1 0 3 = true := by decide
theorem okCell_of (s k : Nat) (hs : s < 8) (hk : k < (s + 1) * (s + 1)) : okCell (s + 1) k = true := by
  have h1 : ((k : Nat) : Int) < ((s + 1 : Nat) : Int) * ((s + 1 : Nat) : Int) := by
    have h : ((k : Nat) : Int) < (((s + 1) * (s + 1) : Nat) : Int) := Int.ofNat_lt.2 hk
    rwa [Int.natCast_mul] at h
  have e : ((s + 1 : Nat) : Int) = (s : Int) + 1 := by omega
  rw [e] at h1
  simp only [okCell, inB, Bool.and_eq_true, decide_eq_true_eq]
  exact ⟨⟨by omega, by omega⟩, by omega, by omega⟩
end Go.Proofs.YthlphmojldbpkaaGreat
/- PicP -/
/- Pictures in plain Lean: acting cell by cell, the same pictures, what keeps a picture. -/
namespace Go.Proofs.YthlphmojldbpkaaGreat
theorem sym_num {t : Int} {f : Bool} (h : inB t 0 3 = true) : ∃ g, g < 8 ∧ sym8 g = (t, f) := by
  obtain ⟨h0, h3⟩ := inB_true h
  have e : t = 0 ∨ t = 1 ∨ t = 2 ∨ t = 3 := by omega
  rcases e with rfl | rfl | rfl | rfl <;> cases f
  · exact ⟨0, by decide, by decide⟩
  · exact ⟨4, by decide, by decide⟩
  · exact ⟨1, by decide, by decide⟩
  · exact ⟨5, by decide, by decide⟩
  · exact ⟨2, by decide, by decide⟩
  · exact ⟨6, by decide, by decide⟩
  · exact ⟨3, by decide, by decide⟩
  · exact ⟨7, by decide, by decide⟩
/-- a picture of size q + 1 -/
def Pic (q : Nat) (xs : List Col) : Prop := q < 8 ∧ xs.length = (q + 1) * (q + 1) ∧ xs.all colB = true
theorem pic_ok {q : Nat} {xs : List Col} (h : Pic q xs) : pictB ((q : Int) + 1) xs = true := by
  obtain ⟨h1, h2, h3⟩ := h
  unfold pictB inB
  simp only [Bool.and_eq_true, beq_iff_eq, decide_eq_true_eq]
  refine ⟨⟨by omega, by omega⟩, ?_, h3⟩
  rw [h2, Int.natCast_mul]
  have e : ((q + 1 : Nat) : Int) = (q : Int) + 1 := by omega
  rw [e]
def toN (q k : Nat) (g : Int × Bool) : Nat := (cellI ((q : Int) + 1) k g.1 g.2).toNat
/-- the cell is one of the picture, and no other number -/
theorem toN_ok {q k : Nat} {g : Int × Bool} (hq : q < 8) (hk : k < (q + 1) * (q + 1)) (_hg : inB g.1 0 3 = true) : cellI ((q : Int) + 1) k g.1 g.2 = (toN q k g : Nat) ∧ toN q k g < (q + 1) * (q + 1) := by
  have h := cellI_bd (okCell_of q k hq hk) g.1 g.2
  have e : toN q k g = (cellI ((q : Int) + 1) k g.1 g.2).toNat := rfl
  refine ⟨by omega, ?_⟩
  have h2 : (toN q k g : Int) < (((q + 1) * (q + 1) : Nat) : Int) := by
    rw [Int.natCast_mul]
    have e2 : ((q + 1 : Nat) : Int) = (q : Int) + 1 := by omega
    rw [e2]; omega
  omega
theorem toN_back {q k : Nat} {g : Int × Bool} (hq : q < 8) (hk : k < (q + 1) * (q + 1)) (hg : inB g.1 0 3 = true) : toN q (toN q k g) (backP g.1 g.2) = k := by
  obtain ⟨n, hn, e⟩ := sym_num (f := g.2) hg
  have e : sym8 n = g := e
  have h := (cells_all q k n hq hk hn).2.2
  rw [e] at h
  have h1 := (toN_ok hq hk hg).1
  rw [h1] at h
  unfold toN at h ⊢
  rw [h]; simp
theorem back_in {g : Int × Bool} (hg : inB g.1 0 3 = true) : inB (backP g.1 g.2).1 0 3 = true := by
  obtain ⟨n, hn, e⟩ := sym_num (f := g.2) hg
  have e : sym8 n = g := e
  have := back_ok n hn
  rwa [e] at this
theorem toN_inj {q k k' : Nat} {g : Int × Bool} (hq : q < 8) (hk : k < (q + 1) * (q + 1)) (hk' : k' < (q + 1) * (q + 1)) (hg : inB g.1 0 3 = true) (h : toN q k g = toN q k' g) : k = k' := by
  rw [← toN_back hq hk hg, ← toN_back hq hk' hg, h]
/-! ### acting -/
theorem actUp_at {q : Nat} {xs : List Col} {g : Int × Bool} (hp : Pic q xs) (hg : inB g.1 0 3 = true) : ∀ m, m ≤ xs.length → ∀ k, k < m → (actUp ((q : Int) + 1) g.1 g.2 xs m)[toN q k g]? = xs[k]? := by
  obtain ⟨hq, hl, _⟩ := hp
  intro m
  induction m with
  | zero => intro _ k hk; omega
  | succ m ih =>
    intro hm k hk
    have hx : xs[m]? = some xs[m] := List.getElem?_eq_getElem (by omega)
    rw [actUp_succ hx]
    have e : (cellI ((q : Int) + 1) m g.1 g.2).toNat = toN q m g := rfl
    rw [e]
    by_cases h : k = m
    · subst h
      rw [List.getElem?_set_self (by rw [actUp_len]; have := (toN_ok (k := k) hq (by omega) hg).2; omega), hx]
    · rw [List.getElem?_set_ne (fun e => h (toN_inj hq (by omega) (by omega) hg e.symm))]
      exact ih (by omega) k (by omega)
theorem actL_eq {q : Nat} {xs : List Col} {g : Int × Bool} (hp : Pic q xs) (hg : inB g.1 0 3 = true) : actL g.1 g.2 ((q : Int) + 1) xs = ((q : Int) + 1, actUp ((q : Int) + 1) g.1 g.2 xs xs.length) := by
  unfold actL
  rw [hg, pic_ok hp]
  rfl
theorem act_at {q k : Nat} {xs : List Col} {g : Int × Bool} (hp : Pic q xs) (hg : inB g.1 0 3 = true) (hk : k < xs.length) : (actL g.1 g.2 ((q : Int) + 1) xs).2[toN q k g]? = xs[k]? := by
  rw [actL_eq hp hg]
  exact actUp_at hp hg _ (Nat.le_refl _) k hk
/-- read from behind -/
theorem act_at' {q k : Nat} {xs : List Col} {g : Int × Bool} (hp : Pic q xs) (hg : inB g.1 0 3 = true) (hk : k < xs.length) : ∃ j, j < xs.length ∧ toN q j g = k ∧ (actL g.1 g.2 ((q : Int) + 1) xs).2[k]? = xs[j]? := by
  have hb := back_in hg
  have hk' : k < (q + 1) * (q + 1) := by rw [← hp.2.1]; exact hk
  have h1 := toN_ok hp.1 hk' hb
  -- toN k back is the cell from which k comes
  have hj : toN q (toN q k (backP g.1 g.2)) g = k := by
    obtain ⟨n, hn, e⟩ := sym_num (f := g.2) hg
    have e : sym8 n = g := e
    have hbb : backP (backP g.1 g.2).1 (backP g.1 g.2).2 = g := by
      rw [← e]
      exact (show ∀ n : Nat, n < 8 → backP (backP (sym8 n).1 (sym8 n).2).1 (backP (sym8 n).1 (sym8 n).2).2 = sym8 n by decide) n hn
    have := toN_back hp.1 hk' hb
    rwa [hbb] at this
  have hlt : toN q k (backP g.1 g.2) < xs.length := by rw [hp.2.1]; exact h1.2
  refine ⟨_, hlt, hj, ?_⟩
  have := act_at hp hg hlt
  rwa [hj] at this
theorem act_pic {q : Nat} {xs : List Col} {g : Int × Bool} (hp : Pic q xs) (hg : inB g.1 0 3 = true) : Pic q (actL g.1 g.2 ((q : Int) + 1) xs).2 ∧ (actL g.1 g.2 ((q : Int) + 1) xs).1 = (q : Int) + 1 := by
  have hl : (actL g.1 g.2 ((q : Int) + 1) xs).2.length = xs.length := by rw [actL_eq hp hg]; exact actUp_len _ _ _ _ _
  refine ⟨⟨hp.1, by rw [hl]; exact hp.2.1, all_yes fun i x hx => ?_⟩, by rw [actL_eq hp hg]⟩
  have hi : i < xs.length := by have := (List.getElem?_eq_some_iff.1 hx).1; omega
  obtain ⟨j, hj, _, e⟩ := act_at' hp hg hi
  rw [hx] at e
  exact List.all_eq_true.1 hp.2.2 x (List.mem_of_getElem? e.symm)
/-! ### colours that are the same -/
def keyC (c : Col) : Int × Int × Int := (key c.1, key c.2.1, key c.2.2)
def atK (xs : List Col) (k : Nat) : Option (Int × Int × Int) := (xs[k]?).map keyC
theorem colEq_key {x y : Col} (hx : colB x = true) (hy : colB y = true) : colEqB x y = decide (keyC x = keyC y) := by
  unfold colB at hx hy
  simp only [Bool.and_eq_true] at hx hy
  unfold colEqB keyC
  rw [eqB_fin (part_fin hx.1) (part_fin hy.1), eqB_fin (part_fin hx.2.1) (part_fin hy.2.1), eqB_fin (part_fin hx.2.2) (part_fin hy.2.2)]
  rw [Bool.eq_iff_iff]
  simp [and_assoc]
theorem same_iff {xs ys : List Col} (hx : xs.all colB = true) (hy : ys.all colB = true) (hl : xs.length = ys.length) : sameCells xs ys = true ↔ ∀ k, k < xs.length → atK xs k = atK ys k := by
  constructor
  · intro h k hk
    have h1 : xs[k]? = some xs[k] := List.getElem?_eq_getElem hk
    have h2 : ys[k]? = some (ys[k]'(by omega)) := List.getElem?_eq_getElem (by omega)
    unfold atK
    rw [h1, h2]
    cases hq : colEqB xs[k] (ys[k]'(by omega))
    · rw [sameCells_no h1 h2 hq] at h; cases h
    · rw [colEq_key (List.all_eq_true.1 hx _ (List.mem_of_getElem? h1)) (List.all_eq_true.1 hy _ (List.mem_of_getElem? h2))] at hq
      simp only [decide_eq_true_eq] at hq
      simp [hq]
  · intro h
    refine sameCells_yes hl fun i x y h1 h2 => ?_
    rw [colEq_key (List.all_eq_true.1 hx _ (List.mem_of_getElem? h1)) (List.all_eq_true.1 hy _ (List.mem_of_getElem? h2))]
    have := h i (List.getElem?_eq_some_iff.1 h1).1
    unfold atK at this
    rw [h1, h2] at this
    simpa using this
theorem sameP_iff {s : Int} {xs ys : List Col} (hx : xs.all colB = true) (hy : ys.all colB = true) (hl : xs.length = ys.length) : sameP s xs s ys = true ↔ ∀ k, k < xs.length → atK xs k = atK ys k := by
  unfold sameP
  rw [beq_self_eq_true, Bool.true_and]
  exact same_iff hx hy hl
/-! ### what keeps a picture -/
theorem keep_iff {q : Nat} {xs : List Col} {g : Int × Bool} (hp : Pic q xs) (hg : inB g.1 0 3 = true) : keepB ((q : Int) + 1) xs g = true ↔ ∀ k, k < xs.length → atK xs (toN q k g) = atK xs k := by
  obtain ⟨h1, h2⟩ := act_pic hp hg
  have hl : (actL g.1 g.2 ((q : Int) + 1) xs).2.length = xs.length := by rw [h1.2.1, hp.2.1]
  unfold keepB
  rw [h2, sameP_iff h1.2.2 hp.2.2 hl]
  constructor
  · intro h k hk
    have h3 := (toN_ok hp.1 (by rw [← hp.2.1]; exact hk) hg).2
    rw [← hp.2.1] at h3
    rw [← h _ (by rw [hl]; exact h3)]
    unfold atK
    rw [act_at hp hg hk]
  · intro h k hk
    rw [hl] at hk
    obtain ⟨j, hj, e, e2⟩ := act_at' hp hg hk
    rw [← e, h j hj]
    unfold atK
    rw [e, e2]
end Go.Proofs.YthlphmojldbpkaaGreat
/- MirP -/
/- '==' on symmetries; slices.Contains; MirrorsOfPicture, the program's. -/
namespace Go.Proofs.YthlphmojldbpkaaGreat
open Go.RowKit
/-- whether a list holds a symmetry -/
def inS (l : List (Int × Bool)) (g : Int × Bool) : Bool := l.contains g
end Go.Proofs.YthlphmojldbpkaaGreat
/- MirS -/
/- MirrorsOfPicture, the reference's; both are the same. -/
namespace Go.Proofs.YthlphmojldbpkaaGreat
open Go.RowKit
theorem symsL_in3 : ∀ k : Nat, k < 4 → ∀ g ∈ symsL (k : Int), g ∈ symsL 3 := by decide
theorem inS_iff {l : List (Int × Bool)} {g : Int × Bool} : inS l g = true ↔ g ∈ l := by unfold inS; exact List.contains_iff_mem
end Go.Proofs.YthlphmojldbpkaaGreat
/- PicL -/
/- Pictures in plain Lean: acting one after the other; what keeps the acted picture. -/
namespace Go.Proofs.YthlphmojldbpkaaGreat
theorem mem_symsP {q : Nat} {xs : List Col} {g : Int × Bool} (hp : Pic q xs) : g ∈ symsP ((q : Int) + 1) xs ↔ g ∈ symsL 3 ∧ keepB ((q : Int) + 1) xs g = true := by
  unfold symsP
  rw [pic_ok hp, if_pos rfl, List.mem_filter]
end Go.Proofs.YthlphmojldbpkaaGreat
/- TakeL -/
/- Pictures taken of turned glass: plain, by keys. -/
namespace Go.Proofs.YthlphmojldbpkaaGreat
open Go.RowKit
def stepsOk : Bool := stepsL.all fun st => finB st && (stpB st && (List.range 17).all fun k => reachB (mulB (fl ((k : Int) - 8)) st))
theorem stepsOk_true : stepsOk = true := by decide +kernel
theorem step_facts {st : Nat} (h : st ∈ stepsL) : finB st = true ∧ stpB st = true ∧ ∀ n : Int, -8 ≤ n → n ≤ 8 → reachB (mulB (fl n) st) = true := by
  have h1 := List.all_eq_true.1 stepsOk_true st h
  simp only [Bool.and_eq_true] at h1
  refine ⟨h1.1, h1.2.1, fun n n1 n2 => ?_⟩
  have h2 := List.all_eq_true.1 h1.2.2 (n + 8).toNat (List.mem_range.2 (by omega))
  have e : (((n + 8).toNat : Nat) : Int) - 8 = n := by omega
  rw [e] at h2
  exact h2
theorem fl_key {n : Int} (h1 : -8 ≤ n) (h2 : n ≤ 8) : key (fl (-n)) = -key (fl n) ∧ finB (fl n) = true := by
  obtain ⟨a1, _, _, a4, _⟩ := small_at n h1 h2
  have hf := reach_fin a4
  rw [← a1]
  exact ⟨(neg_key hf).1, hf⟩
def scaleZ (st : Nat) (p : Int × Int) : Int × Int := (key (mulK (key (fl p.1)) (key st)), key (mulK (key (fl p.2)) (key st)))
theorem scale_rI {st : Nat} {p : Int × Int} (h : Sm 8 p) : scaleZ st (rI p) = rI (scaleZ st p) := by
  obtain ⟨a, b, c, d⟩ := h
  unfold scaleZ rI
  dsimp only
  rw [(fl_key c d).1, mulK_neg]
theorem scale_rIN {st : Nat} {p : Int × Int} (h : Sm 8 p) : ∀ n, scaleZ st (rIN n p) = rIN n (scaleZ st p)
  | 0 => rfl
  | n + 1 => by show scaleZ st (rI (rIN n p)) = rI (rIN n _); rw [scale_rI (rIN_sm h n), scale_rIN h n]
theorem scale_aI {st : Nat} {p : Int × Int} (h : Sm 8 p) (t : Int) (f : Bool) : scaleZ st (aI t f p) = aI t f (scaleZ st p) := by
  unfold aI
  cases f
  · exact scale_rIN h _
  · simp only [if_true]
    obtain ⟨a, b, c, d⟩ := h
    rw [scale_rIN (p := (p.1, -p.2)) ⟨a, b, by dsimp only; omega, by dsimp only; omega⟩]
    unfold scaleZ
    dsimp only
    rw [(fl_key c d).1, mulK_neg]
theorem spot_facts {st : Nat} {s i : Int} (hst : st ∈ stepsL) (hc : okCell s i = true) : keyP (spotP st s i) = scaleZ st (ptI s i) ∧ pointB (spotP st s i).1 (spotP st s i).2 = true := by
  obtain ⟨s1, s2, _⟩ := okCell_bd hc
  obtain ⟨a, b, c, d⟩ := (ptI_sm hc).mono (c := 8) (by omega)
  obtain ⟨h1, _, h3⟩ := step_facts hst
  refine ⟨?_, ?_⟩
  · unfold keyP spotP scaleZ
    dsimp only
    rw [mul_keys (fl_key a b).2 h1, mul_keys (fl_key c d).2 h1]
  · unfold pointB spotP
    dsimp only
    rw [h3 _ a b, h3 _ c d]; rfl
theorem take_pic {kind : Int} {q st : Nat} {ls : List Sh} {light : Col} (hq : q < 8) (hok : ls.all okSh = true) (hc : colB light = true) : Pic q (takeUp kind ((q : Int) + 1) st ls light ((q + 1) * (q + 1))) := by
  refine ⟨hq, takeUp_len _ _ _ _ _ _, ?_⟩
  rw [List.all_eq_true]
  intro x hx
  unfold takeUp at hx
  obtain ⟨i, _, rfl⟩ := List.mem_map.1 hx
  exact seen_col hok hc
theorem takeUp_at {kind s : Int} {st : Nat} {ls : List Sh} {light : Col} {N k : Nat} (hk : k < N) : (takeUp kind s st ls light N)[k]? = some (takeC kind s st ls light k) := by
  unfold takeUp
  rw [List.getElem?_map, List.getElem?_range hk]
  rfl
end Go.Proofs.YthlphmojldbpkaaGreat
/- InvL -/
/- What the symmetries of mirrors leave: two points of a wedge with the same images are the same. -/
namespace Go.Proofs.YthlphmojldbpkaaGreat
open Go.RowKit
/-- what the symmetries of mirrors leave -/
def Inv (kind : Int) (p q : Int × Int) : Prop :=
  if kind = 0 then p = q else if kind = 1 then p.1 = q.1 ∧ p.2.natAbs = q.2.natAbs
  else if kind = 2 then p.1.natAbs = q.1.natAbs ∧ p.2.natAbs = q.2.natAbs
  else (p.1.natAbs = q.1.natAbs ∧ p.2.natAbs = q.2.natAbs) ∨ (p.1.natAbs = q.2.natAbs ∧ p.2.natAbs = q.1.natAbs)
theorem inv0 {p q : Int × Int} : Inv 0 p q ↔ p = q := by unfold Inv; simp
theorem inv1 {a b : Int} {q : Int × Int} : Inv 1 (a, b) q ↔ a = q.1 ∧ b.natAbs = q.2.natAbs := by unfold Inv; simp
theorem inv2 {a b : Int} {q : Int × Int} : Inv 2 (a, b) q ↔ a.natAbs = q.1.natAbs ∧ b.natAbs = q.2.natAbs := by unfold Inv; simp
theorem inv3 {a b : Int} {q : Int × Int} : Inv 3 (a, b) q ↔ (a.natAbs = q.1.natAbs ∧ b.natAbs = q.2.natAbs) ∨ (a.natAbs = q.2.natAbs ∧ b.natAbs = q.1.natAbs) := by unfold Inv; simp
theorem inv_step {kind : Int} (hk : inB kind 0 3 = true) {g : Int × Bool} (hg : g ∈ symsL kind) {p q : Int × Int} (h : Inv kind p q) : Inv kind (aI g.1 g.2 p) q := by
  obtain ⟨x, y⟩ := p
  rcases kinds hk with rfl | rfl | rfl | rfl
  · rw [syms0] at hg
    simp only [List.mem_cons, List.not_mem_nil, or_false] at hg
    subst hg
    exact h
  · rw [syms1] at hg
    simp only [List.mem_cons, List.not_mem_nil, or_false] at hg
    rw [inv1] at h
    rcases hg with rfl | rfl <;> dsimp only <;> rw [show ∀ f, aI 0 f (x, y) = (x, if f then -y else y) from fun f => rfl] <;> rw [inv1] <;> simp <;> omega
  · rw [syms2] at hg
    simp only [List.mem_cons, List.not_mem_nil, or_false] at hg
    rw [inv2] at h
    rcases hg with rfl | rfl | rfl | rfl <;> dsimp only <;> simp only [a00, a20, a01, a21] <;> rw [inv2] <;> omega
  · rw [syms3] at hg
    simp only [List.mem_cons, List.not_mem_nil, or_false] at hg
    rw [inv3] at h
    rcases hg with rfl | rfl | rfl | rfl | rfl | rfl | rfl | rfl <;> dsimp only <;> simp only [a00, a10, a20, a30, a01, a11, a21, a31] <;> rw [inv3] <;> omega
theorem inv_refl {kind : Int} (hk : inB kind 0 3 = true) (p : Int × Int) : Inv kind p p := by
  obtain ⟨x, y⟩ := p
  rcases kinds hk with rfl | rfl | rfl | rfl
  · exact inv0.2 rfl
  · exact inv1.2 ⟨rfl, rfl⟩
  · exact inv2.2 ⟨rfl, rfl⟩
  · exact inv3.2 (.inl ⟨rfl, rfl⟩)
/-- two points of a wedge that have the same images are the same -/
theorem inv_side {kind : Int} (hk : inB kind 0 3 = true) {p q r : Int × Int} (hp : sideI kind p = true) (hq : sideI kind q = true) (h1 : Inv kind p r) (h2 : Inv kind q r) : p = q := by
  obtain ⟨x, y⟩ := p
  obtain ⟨a, b⟩ := q
  rcases kinds hk with rfl | rfl | rfl | rfl
  · rw [inv0] at h1 h2
    rw [h1, h2]
  · rw [inv1] at h1 h2
    simp [sideI] at hp hq
    rw [Prod.mk.injEq]; omega
  · rw [inv2] at h1 h2
    simp [sideI] at hp hq
    rw [Prod.mk.injEq]; omega
  · rw [inv3] at h1 h2
    simp [sideI] at hp hq
    rw [Prod.mk.injEq]; omega
end Go.Proofs.YthlphmojldbpkaaGreat
/- DrawPic -/
/- The draw of a picture. -/
namespace Go.Proofs.YthlphmojldbpkaaGreat
open Go.RowKit
attribute [local go_sem] run_store_float run_store_complex
theorem spread_pic {q : Nat} {xs : List Col} {kk : Nat} (hp : Pic q xs) (hk : kk < 4) : spreadL (kk : Int) ((q : Int) + 1) xs = ((q : Int) + 1, spreadUp (kk : Int) ((q : Int) + 1) xs xs.length) ∧ Pic q (spreadUp (kk : Int) ((q : Int) + 1) xs xs.length) := by
  have h1 : inB (kk : Int) 0 3 = true := by unfold inB; simp; omega
  refine ⟨by unfold spreadL; rw [h1, pic_ok hp]; rfl, hp.1, by rw [spreadUp_len]; exact hp.2.1, all_yes fun i x hx => ?_⟩
  unfold spreadUp at hx
  have hi : i < xs.length := by have := (List.getElem?_eq_some_iff.1 hx).1; simpa using this
  rw [List.getElem?_map, List.getElem?_range hi] at hx
  simp only [Option.map_some, Option.some.injEq] at hx
  have hb := firstI_bd (kind := (kk : Int)) (okCell_of q i hp.1 (by rw [← hp.2.1]; exact hi))
  have hj : (firstI (kk : Int) ((q : Int) + 1) (i : Int)).toNat < xs.length := by omega
  rw [List.getD_eq_getElem?_getD, List.getElem?_eq_getElem hj] at hx
  simp only [Option.getD_some] at hx
  rw [← hx]
  exact List.all_eq_true.1 hp.2.2 _ (List.getElem_mem _)
end Go.Proofs.YthlphmojldbpkaaGreat
/- TakenL -/
/- A picture taken between mirrors has the symmetries of the mirrors: plain, by keys. -/
namespace Go.Proofs.YthlphmojldbpkaaGreat
open Go.RowKit
/-- the spot, folded, is the same for all cells that the mirrors show -/
theorem fold_same {kind : Int} (hk : inB kind 0 3 = true) {z z' : Pt} (hz : pointB z.1 z.2 = true) (hz' : pointB z'.1 z'.2 = true) {g : Int × Bool} (hg : g ∈ symsL kind) (h : keyP z' = aI g.1 g.2 (keyP z)) :
    keyP (foldP kind z').1 = keyP (foldP kind z).1 ∧ finP (foldP kind z).1 ∧ finP (foldP kind z').1 := by
  obtain ⟨a, ha, fa, sa⟩ := firstG_some hk (keyP z)
  obtain ⟨b, hb, fb, sb⟩ := firstG_some hk (keyP z')
  rw [foldP_g hz fa, foldP_g hz' fb]
  dsimp only
  obtain ⟨k1, k2⟩ := actP_key (f := a.2) (symsL_in a ha) hz
  obtain ⟨k3, k4⟩ := actP_key (f := b.2) (symsL_in b hb) hz'
  refine ⟨?_, k2, k4⟩
  rw [k1, k3]
  refine inv_side hk sb sa ?_ (inv_step hk ha (inv_refl hk (keyP z)))
  rw [h]
  exact inv_step hk hb (inv_step hk hg (inv_refl hk (keyP z)))
theorem take_sym {kind q k st : Nat} {g : Int × Bool} {ls : List Sh} {light : Col} (hk4 : kind < 4) (hg : g ∈ symsL (kind : Int)) (hq : q < 8) (hk : k < (q + 1) * (q + 1)) (hst : st ∈ stepsL) (hok : ls.all okSh = true) :
    takeC (kind : Int) ((q : Int) + 1) st ls light (toN q k g) = takeC (kind : Int) ((q : Int) + 1) st ls light k := by
  have hki : inB (kind : Int) 0 3 = true := by unfold inB; simp; omega
  obtain ⟨t, f⟩ := g
  have ht : inB t 0 3 = true := symsL_in (t, f) hg
  obtain ⟨n, hn8, e⟩ := sym_num (f := f) ht
  obtain ⟨c1, c2, _⟩ := cells_all q k n hq hk hn8
  rw [e] at c1 c2
  dsimp only at c1 c2
  have c0 := okCell_of q k hq hk
  have hn := (toN_ok (q := q) (k := k) (g := (t, f)) hq hk ht).1
  dsimp only at hn
  rw [hn] at c1 c2
  obtain ⟨k1, k2⟩ := spot_facts hst c0
  obtain ⟨k3, k4⟩ := spot_facts hst c1
  have hsm := (ptI_sm c0).mono (c := 8) (by have := (okCell_bd c0).2.1; omega)
  obtain ⟨e1, e2, e3⟩ := fold_same hki k2 k4 hg (by rw [k3, k1, c2, scale_aI hsm])
  unfold takeC
  refine seen_turn (t := 0) (f := false) e2 e3 (by rw [e1]; rfl) ls ls rfl (fun i s s' hs hs' => ?_) light
  rw [hs] at hs'
  injection hs' with hs'
  subst hs'
  obtain ⟨o1, o2, o3, _, _⟩ := okSh_parts (List.all_eq_true.1 hok s (List.mem_of_getElem? hs))
  exact ⟨⟨point_fin o1, point_fin o2, point_fin o3⟩, ⟨point_fin o1, point_fin o2, point_fin o3⟩, rfl, rfl, rfl, rfl⟩
/-- what a picture taken between mirrors of a kind is -/
def TakenP (kind q : Nat) (xs : List Col) : Prop := Pic q xs ∧ ∀ k, k < (q + 1) * (q + 1) → ∀ g ∈ symsL (kind : Int), atK xs (toN q k g) = atK xs k
theorem taken_p {kind q st : Nat} {ls : List Sh} {light : Col} (hk4 : kind < 4) (hq : q < 8) (hst : st ∈ stepsL) (hok : ls.all okSh = true) (hc : colB light = true) :
    TakenP kind q (takeUp (kind : Int) ((q : Int) + 1) st ls light ((q + 1) * (q + 1))) := by
  refine ⟨take_pic hq hok hc, fun k hk g hg => ?_⟩
  have ht : inB g.1 0 3 = true := symsL_in g hg
  have h2 := (toN_ok (q := q) (k := k) (g := g) hq hk ht).2
  unfold atK
  rw [takeUp_at h2, takeUp_at hk, take_sym hk4 hg hq hk hst hok]
theorem taken_keep {kind q : Nat} {xs : List Col} (h : TakenP kind q xs) {g : Int × Bool} (hg : g ∈ symsL (kind : Int)) : keepB ((q : Int) + 1) xs g = true := by
  have ht : inB g.1 0 3 = true := symsL_in g hg
  rw [keep_iff h.1 ht]
  intro k hk
  rw [h.1.2.1] at hk
  exact h.2 k hk g hg
theorem taken_has {kind q : Nat} {xs : List Col} (hk4 : kind < 4) (h : TakenP kind q xs) {g : Int × Bool} (hg : g ∈ symsL (kind : Int)) : inS (symsP ((q : Int) + 1) xs) g = true := by
  rw [inS_iff, mem_symsP h.1]
  exact ⟨symsL_in3 kind hk4 g hg, taken_keep h hg⟩
def firstOk (kind q : Nat) : Bool := (List.range ((q + 1) * (q + 1))).all fun k => (symsL (kind : Int)).any fun g => decide (firstI (kind : Int) ((q : Int) + 1) (k : Int) = cellI ((q : Int) + 1) (k : Int) g.1 g.2)
theorem first_all : ∀ kind : Nat, kind < 4 → ∀ q : Nat, q < 6 → firstOk kind q = true := by decide +kernel
theorem first_cell {kind q k : Nat} (hk4 : kind < 4) (hq : q < 6) (hk : k < (q + 1) * (q + 1)) : ∃ g ∈ symsL (kind : Int), (firstI (kind : Int) ((q : Int) + 1) (k : Int)).toNat = toN q k g := by
  have h := List.all_eq_true.1 (first_all kind hk4 q hq) k (List.mem_range.2 hk)
  obtain ⟨g, hg, he⟩ := List.any_eq_true.1 h
  refine ⟨g, hg, ?_⟩
  rw [of_decide_eq_true he]
  rfl
theorem taken_spread {kind q : Nat} {xs : List Col} (hk4 : kind < 4) (hq : q < 6) (h : TakenP kind q xs) : sameP ((q : Int) + 1) xs ((q : Int) + 1) (spreadUp (kind : Int) ((q : Int) + 1) xs xs.length) = true := by
  have hpz := (spread_pic h.1 hk4).2
  rw [sameP_iff h.1.2.2 hpz.2.2 (by rw [spreadUp_len])]
  intro k hk
  have hk' : k < (q + 1) * (q + 1) := by rw [← h.1.2.1]; exact hk
  obtain ⟨g, hg, e⟩ := first_cell hk4 hq hk'
  have ht : inB g.1 0 3 = true := symsL_in g hg
  have h2 := (toN_ok (q := q) (k := k) (g := g) (by omega) hk' ht).2
  rw [← h.2 k hk' g hg]
  unfold atK spreadUp
  rw [List.getElem?_map, List.getElem?_range hk]
  simp only [Option.map_some]
  rw [e, List.getD_eq_getElem?_getD, List.getElem?_eq_getElem (show toN q k g < xs.length by rw [h.1.2.1]; exact h2)]
  rfl
end Go.Proofs.YthlphmojldbpkaaGreat
/- Spread -/
/- SpreadPicture, the program's. -/
namespace Go.Proofs.YthlphmojldbpkaaGreat
open Go.RowKit
attribute [local go_sem] run_store_float run_store_complex
set_option maxRecDepth 100000 in
set_option maxHeartbeats 8000000 in
theorem spreadPicture_any (kind s : Int) (A : Option Addr) (n c : Nat) (xs : List Col) (w : World) (hn : n ≤ maxLen) (ha : Rd colC 3 w w.heap.size A n xs) :
    Calls Tryz.prog 12 #[.int .i64 kind, .agg #[.int .i64 s, .slice A n c]] w fun e w' => ∃ B d, e = .returned (.tuple #[.agg #[.int .i64 (spreadL kind s xs).1, .slice B (spreadL kind s xs).2.length d], .bool (spreadOk kind s xs)]) ∧ w'.ownsRow w.heap.size 26 3 (.slice B (spreadL kind s xs).2.length d) (spreadL kind s xs).2.length (flat colC (spreadL kind s xs).2) ∧ Below w.heap.size w w' := by
  cases h1 : inB kind 0 3
  · have R := Lib.hid (show spreadL kind s xs = (0, []) ∧ spreadOk kind s xs = false by simp [spreadL, spreadOk, h1])
    go_enter Tryz.func12, Tryz.ntmps12
    go_wp2_with (go_at_call 39; refine (isKind_any _ _).mono ?_; rintro e w' ⟨rfl, rfl⟩; simp only [h1])
    exact bodyPost_ret (v := .tuple #[.agg #[.int .i64 0, .slice none 0 0], .bool false]) (by simp [results, Tryz.results12, go_sem, *]) rfl ⟨none, 0, by rw [R.out.1, R.out.2]; rfl, by rw [R.out.1]; exact ⟨rfl, .inl ⟨rfl, rfl⟩⟩, by (repeat (first | with_reducible assumption | exact Below.refl _ _ | (refine Below.setCell ?_ (by first | exact Nat.le_refl _ | (simp; done) | omega | (simp; omega)) _) | (refine below_drewN ?_ _) | (refine Below.drew ?_) | (refine Below.alloc ?_ (by first | exact Nat.le_refl _ | (simp; done) | omega | (simp; omega)) _) | (refine then_ ?_ (by with_reducible assumption)) | assumption | (refine then_ ?_ (by assumption))))⟩
  · cases h2 : pictB s xs
    · have R := Lib.hid (show spreadL kind s xs = (0, []) ∧ spreadOk kind s xs = false by simp [spreadL, spreadOk, h2])
      go_enter Tryz.func12, Tryz.ntmps12
      go_wp2_with (first
        | (go_at_call 39; refine (isKind_any _ _).mono ?_; rintro e w' ⟨rfl, rfl⟩; simp only [h1])
        | (go_at_call 18; refine (isPicture_any s A n c xs _ hn (ha.step ?_)).mono ?_; (repeat (first | with_reducible assumption | exact Below.refl _ _ | (refine Below.setCell ?_ (by first | exact Nat.le_refl _ | (simp; done) | omega | (simp; omega)) _) | (refine below_drewN ?_ _) | (refine Below.drew ?_) | (refine Below.alloc ?_ (by first | exact Nat.le_refl _ | (simp; done) | omega | (simp; omega)) _) | (refine then_ ?_ (by with_reducible assumption)) | assumption | (refine then_ ?_ (by assumption)))); rintro e w2 ⟨rfl, hb2⟩; simp only [h2]; have kf1_0 := keepF (p := ⟨w.heap.size + 1, 0, none⟩) (v := .int .i64 0) (by first | assumption | (simp [go_sem]; done) | (simp [go_sem, *]; done)) (by first | assumption | (simp [go_sem]; done) | (simp [go_sem, *]; done)) hb2; have kf1_1 := keepF (p := ⟨w.heap.size + 1, 1, none⟩) (v := .slice none 0 0) (by first | assumption | (simp [go_sem]; done) | (simp [go_sem, *]; done)) (by first | assumption | (simp [go_sem]; done) | (simp [go_sem, *]; done)) hb2; have kc1_0 := keepC (p := ⟨w.heap.size + 1, 0, none⟩) (v := .int .i64 0) (by first | assumption | (simp [go_sem]; done) | (simp [go_sem, *]; done)) hb2; have kc1_1 := keepC (p := ⟨w.heap.size + 1, 1, none⟩) (v := .slice none 0 0) (by first | assumption | (simp [go_sem]; done) | (simp [go_sem, *]; done)) hb2; have lb1_ := (show w.heap.size + 1 < _ from World.block_lt_of_cell? _ _ kc1_0)))
      exact bodyPost_ret (v := .tuple #[.agg #[.int .i64 0, .slice none 0 0], .bool false]) (by simp [results, Tryz.results12, go_sem, *]) rfl ⟨none, 0, by rw [R.out.1, R.out.2]; rfl, by rw [R.out.1]; exact ⟨rfl, .inl ⟨rfl, rfl⟩⟩, by (repeat (first | with_reducible assumption | exact Below.refl _ _ | (refine Below.setCell ?_ (by first | exact Nat.le_refl _ | (simp; done) | omega | (simp; omega)) _) | (refine below_drewN ?_ _) | (refine Below.drew ?_) | (refine Below.alloc ?_ (by first | exact Nat.le_refl _ | (simp; done) | omega | (simp; omega)) _) | (refine then_ ?_ (by with_reducible assumption)) | assumption | (refine then_ ?_ (by assumption))))⟩
    · have hl := pict_bd h2
      have hn64 : n ≤ 64 := by have := ha.1; omega
      have hss : s * s = (n : Int) := by have := ha.1; have := hl.2.2.2; omega
      have R := Lib.hid (show spreadL kind s xs = (s, spreadUp kind s xs n) ∧ spreadOk kind s xs = true by simp [spreadL, spreadOk, h1, h2, ha.1])
      have HL := Lib.hid ha.1
      obtain ⟨hl1, hl2, hl3, hl4⟩ := hl
      have SS := Lib.hid hss
      clear hl4 hss
      obtain ⟨i0, hi, hz0, hz1, hz2⟩ := info_parts infoCol
      go_enter Tryz.func12, Tryz.ntmps12
      go_wp2_with (first
        | (go_at_call 39; refine (isKind_any _ _).mono ?_; rintro e w' ⟨rfl, rfl⟩; simp only [h1])
        | (go_at_call 18; refine (isPicture_any s A n c xs _ hn (ha.step ?_)).mono ?_; (repeat (first | with_reducible assumption | exact Below.refl _ _ | (refine Below.setCell ?_ (by first | exact Nat.le_refl _ | (simp; done) | omega | (simp; omega)) _) | (refine below_drewN ?_ _) | (refine Below.drew ?_) | (refine Below.alloc ?_ (by first | exact Nat.le_refl _ | (simp; done) | omega | (simp; omega)) _) | (refine then_ ?_ (by with_reducible assumption)) | assumption | (refine then_ ?_ (by assumption)))); rintro e w2 ⟨rfl, hb2⟩; simp only [h2]; have kf1_0 := keepF (p := ⟨w.heap.size + 1, 0, none⟩) (v := .int .i64 0) (by first | assumption | (simp [go_sem]; done) | (simp [go_sem, *]; done)) (by first | assumption | (simp [go_sem]; done) | (simp [go_sem, *]; done)) hb2; have kf1_1 := keepF (p := ⟨w.heap.size + 1, 1, none⟩) (v := .slice none 0 0) (by first | assumption | (simp [go_sem]; done) | (simp [go_sem, *]; done)) (by first | assumption | (simp [go_sem]; done) | (simp [go_sem, *]; done)) hb2; have kc1_0 := keepC (p := ⟨w.heap.size + 1, 0, none⟩) (v := .int .i64 0) (by first | assumption | (simp [go_sem]; done) | (simp [go_sem, *]; done)) hb2; have kc1_1 := keepC (p := ⟨w.heap.size + 1, 1, none⟩) (v := .slice none 0 0) (by first | assumption | (simp [go_sem]; done) | (simp [go_sem, *]; done)) hb2; have lb1_ := (show w.heap.size + 1 < _ from World.block_lt_of_cell? _ _ kc1_0); have kc_0 := keepC (p := ⟨w.heap.size, 0, none⟩) (v := .int .i64 s) (by first | assumption | (simp [go_sem]; done) | (simp [go_sem, *]; done)) hb2; have kc_1 := keepC (p := ⟨w.heap.size, 1, none⟩) (v := .slice A n c) (by first | assumption | (simp [go_sem]; done) | (simp [go_sem, *]; done)) hb2; have lb_ := (show w.heap.size < _ from World.block_lt_of_cell? _ _ kc_0)))
      have hW2 : Below w.heap.size w w2 := by (repeat (first | with_reducible assumption | exact Below.refl _ _ | (refine Below.setCell ?_ (by first | exact Nat.le_refl _ | (simp; done) | omega | (simp; omega)) _) | (refine below_drewN ?_ _) | (refine Below.drew ?_) | (refine Below.alloc ?_ (by first | exact Nat.le_refl _ | (simp; done) | omega | (simp; omega)) _) | (refine then_ ?_ (by with_reducible assumption)) | assumption | (refine then_ ?_ (by assumption))))
      have ra : Rd colC 3 w2 w2.heap.size A n xs := ha.step hW2
      have p0 := kc_0
      have p1 := kc_1
      have lp := World.block_lt_of_cell? _ _ p0
      clear hb2
      obtain ⟨W, hWe⟩ : ∃ W, W = w2.alloc (Obj.cells #[.int .i64 s, .slice none 0 0] 47) := ⟨_, rfl⟩
      have hW : Below w2.heap.size w2 W := by rw [hWe]; (repeat (first | with_reducible assumption | exact Below.refl _ _ | (refine Below.setCell ?_ (by first | exact Nat.le_refl _ | (simp; done) | omega | (simp; omega)) _) | (refine below_drewN ?_ _) | (refine Below.drew ?_) | (refine Below.alloc ?_ (by first | exact Nat.le_refl _ | (simp; done) | omega | (simp; omega)) _) | (refine then_ ?_ (by with_reducible assumption)) | assumption | (refine then_ ?_ (by assumption))))
      have zW : w2.heap.size < W.heap.size := by rw [hWe]; simp
      have x0 : W.cell? ⟨w2.heap.size, 0, none⟩ = some (.int .i64 s) := by rw [hWe]; simp [go_sem]
      have x1 : W.cell? ⟨w2.heap.size, 1, none⟩ = some (.slice none 0 0) := by rw [hWe]; simp [go_sem]
      have xf : W.frozen? ⟨w2.heap.size, 1, none⟩ = false := by rw [hWe]; simp [go_sem]
      rw [← hWe]
      clear hWe
      go_loopw [23] (fun i wr => ∃ (k : Nat) (O : Option Addr) (C : Nat), k ≤ n ∧ i = .int .i64 k ∧ wr.cell? ⟨w2.heap.size, 0, none⟩ = some (.int .i64 s) ∧ wr.cell? ⟨w2.heap.size, 1, none⟩ = some (.slice O k C) ∧ wr.frozen? ⟨w2.heap.size, 1, none⟩ = false ∧ wr.ownsRow W.heap.size 26 3 (.slice O k C) k (flat colC (spreadUp kind s xs k)) ∧ W.heap.size ≤ wr.heap.size ∧ Below w2.heap.size w2 wr) (fun i _ => n - (intOf i).toNat)
      case atStart => exact ⟨0, none, 0, Nat.zero_le _, rfl, x0, x1, xf, ⟨rfl, .inl ⟨rfl, rfl⟩⟩, Nat.le_refl _, hW⟩
      case round =>
        clear x0 x1 xf hW
        obtain ⟨k, O, C, hk, rfl, x0, x1, xf, hown, hsz, hw⟩ := hrel
        have OW := Lib.hid hown
        clear hown
        have kc_0 := keepC (p := ⟨w.heap.size, 0, none⟩) (v := .int .i64 s) (by first | assumption | (simp [go_sem]; done) | (simp [go_sem, *]; done)) hw; have kc_1 := keepC (p := ⟨w.heap.size, 1, none⟩) (v := .slice A n c) (by first | assumption | (simp [go_sem]; done) | (simp [go_sem, *]; done)) hw; have lb_ := (show w.heap.size < _ from World.block_lt_of_cell? _ _ kc_0)
        by_cases hlt : k < n
        · have hok : okCell s k = true := by
            have := SS.out
            unfold okCell inB
            simp only [Bool.and_eq_true, decide_eq_true_eq]
            omega
          have hfb := firstI_bd (kind := kind) hok
          obtain ⟨q, hq⟩ := Int.eq_ofNat_of_zero_le hfb.1
          have hqn : q < n := by omega
          obtain ⟨b, off, r, g, l, rfl, hbl, hx, c0, c1, c2⟩ := ra.col hqn
          have S := Lib.hid (spreadUp_succ hq hx)
          have FV := Lib.hid hq
          have hki : (k : Int) < (n : Int) := by omega
          have hk0 : (0 : Int) ≤ (k : Int) := by omega
          have hqi : (q : Int) < (n : Int) := by omega
          have hq0 : (0 : Int) ≤ (q : Int) := by omega
          have c0 := keepC c0 hw
          have c1 := keepC c1 hw
          have c2 := keepC c2 hw
          have lbb := World.block_lt_of_cell? _ _ c0
          dsimp only at lbb
          clear hx hok hfb hq
          go_wp2_with fail
          go_region_law ((first
            | (go_simp; go_at_call 40; refine (firstCell_any _ _ _ _).mono ?_; rintro e w5 ⟨rfl, hb5⟩; simp only [FV.out]; have hB5 : Below wr.heap.size wr w5 := (by (repeat (first | with_reducible assumption | exact Below.refl _ _ | (refine Below.setCell ?_ (by first | exact Nat.le_refl _ | (simp; done) | omega | (simp; omega)) _) | (refine below_drewN ?_ _) | (refine Below.drew ?_) | (refine Below.alloc ?_ (by first | exact Nat.le_refl _ | (simp; done) | omega | (simp; omega)) _) | (refine then_ ?_ (by with_reducible assumption)) | assumption | (refine then_ ?_ (by assumption))))); have y0 := keepC x0 hB5; have y1 := keepC x1 hB5; have yf := keepF x1 xf hB5; have OW5 := Lib.hid (owns_below OW.out hB5); have hz5 := hB5.size; have lz5 : w2.heap.size < w5.heap.size := (by omega); have hw5 := then_ hw hB5; have k0 := keepC kc_0 hB5; have k1 := keepC kc_1 hB5; have m0 := keepC c0 hB5; have m1 := keepC c1 hB5; have m2 := keepC c2 hB5)
            | (refine step_append_lies _ (by rfl) _ _ _ (by rfl) W.heap.size 26 i0 _ 3 12 Tryz.underlying45 hi hz0 hz1 hz2 rfl (by omega) _ _ _ (by rfl) (OW5.out.alloc _) ⟨w5.heap.size, 0, none⟩ 1 1 [.float .f32 r, .float .f32 g, .float .f32 l] (by rfl) (by rfl) (World.news_of_block (cs := #[.float .f32 r, .float .f32 g, .float .f32 l]) (t := 26) (fr := (0, 0)) (heap_alloc_new w5 _)) (by simp [Value.oneCell']) (by omega) (by unfold maxLen; omega) (by omega) (by simp; omega) (w5.heap.size + 1) (by simp) ?_; intro gg cap w6 hown6 hg6 hat6 hlt6; have hA := (show Below w5.heap.size w5 (w5.alloc (Obj.cells #[.float .f32 r, .float .f32 g, .float .f32 l] 26)) by (repeat (first | with_reducible assumption | exact Below.refl _ _ | (refine Below.setCell ?_ (by first | exact Nat.le_refl _ | (simp; done) | omega | (simp; omega)) _) | (refine below_drewN ?_ _) | (refine Below.drew ?_) | (refine Below.alloc ?_ (by first | exact Nat.le_refl _ | (simp; done) | omega | (simp; omega)) _) | (refine then_ ?_ (by with_reducible assumption)) | assumption | (refine then_ ?_ (by assumption))))); have u0 := keepG_lt (keepC y0 hA) (OW5.out.alloc _) hg6 zW; have u1 := keepG_lt (keepC y1 hA) (OW5.out.alloc _) hg6 zW; have uf := keepG_fr (keepF y1 yf hA) (OW5.out.alloc _) hg6 zW (by simp; omega); have hB6 : Below w2.heap.size w2 w6 := Below.grown (hw5.alloc hw5.size _) hg6 (by simp; omega) (fun j hj => (by have := (OW5.out.lt j hj).1; omega)); have OW6 := Lib.hid hown6; have hz6 := hg6.size; simp only [World.size_alloc] at hz6; clear hown6 hg6 hat6)))
          all_goals
            go_wp2
            go_roundw
            case rel =>
              refine ⟨k + 1, some ⟨gg, 0, none⟩, cap, by omega, by go_num, by simp [go_sem, u0], by simp [go_sem, u1], by simp [go_sem, uf], ?_, by simp; omega, by (repeat (first | with_reducible assumption | exact Below.refl _ _ | (refine Below.setCell ?_ (by first | exact Nat.le_refl _ | (simp; done) | omega | (simp; omega)) _) | (refine below_drewN ?_ _) | (refine Below.drew ?_) | (refine Below.alloc ?_ (by first | exact Nat.le_refl _ | (simp; done) | omega | (simp; omega)) _) | (refine then_ ?_ (by with_reducible assumption)) | assumption | (refine then_ ?_ (by assumption))))⟩
              rw [S.out, flat_append]
              exact ownsRow_setCell_below OW6.out zW _
            case measure => simp [intOf]; omega
        · obtain rfl : k = n := by omega
          have kf1_0 := keepF (p := ⟨w.heap.size + 1, 0, none⟩) (v := .int .i64 0) (by first | assumption | (simp [go_sem]; done) | (simp [go_sem, *]; done)) (by first | assumption | (simp [go_sem]; done) | (simp [go_sem, *]; done)) hw; have kf1_1 := keepF (p := ⟨w.heap.size + 1, 1, none⟩) (v := .slice none 0 0) (by first | assumption | (simp [go_sem]; done) | (simp [go_sem, *]; done)) (by first | assumption | (simp [go_sem]; done) | (simp [go_sem, *]; done)) hw; have kc1_0 := keepC (p := ⟨w.heap.size + 1, 0, none⟩) (v := .int .i64 0) (by first | assumption | (simp [go_sem]; done) | (simp [go_sem, *]; done)) hw; have kc1_1 := keepC (p := ⟨w.heap.size + 1, 1, none⟩) (v := .slice none 0 0) (by first | assumption | (simp [go_sem]; done) | (simp [go_sem, *]; done)) hw; have lb1_ := (show w.heap.size + 1 < _ from World.block_lt_of_cell? _ _ kc1_0)
          have hz := hw.size
          go_wp2
          refine bodyPost_ret (v := .tuple #[.agg #[.int .i64 s, .slice O k C], .bool true]) (by simp [results, Tryz.results12, go_sem, *]) rfl ⟨O, C, by rw [R.out.1, R.out.2, spreadUp_len], ?_, by (repeat (first | with_reducible assumption | exact Below.refl _ _ | (refine Below.setCell ?_ (by first | exact Nat.le_refl _ | (simp; done) | omega | (simp; omega)) _) | (refine below_drewN ?_ _) | (refine Below.drew ?_) | (refine Below.alloc ?_ (by first | exact Nat.le_refl _ | (simp; done) | omega | (simp; omega)) _) | (refine then_ ?_ (by with_reducible assumption)) | assumption | (refine then_ ?_ (by assumption))))⟩
          rw [R.out.1, spreadUp_len]
          exact owns_mono (ownsRow_setCell_below (ownsRow_setCell_below OW.out (by show w.heap.size + 1 < _; omega) _) (by show w.heap.size + 1 < _; omega) _) (by have := hW2.size; omega)
end Go.Proofs.YthlphmojldbpkaaGreat
/- Sort -/
/- slices.SortFunc on at most twelve points: what it leaves is a row of as many. -/
namespace Go.Proofs.YthlphmojldbpkaaGreat
open Go.RowKit
attribute [local go_sem] run_store_float run_store_complex
set_option maxHeartbeats 2000000 in
theorem orbF_any (a b a' b' : Nat) (w : World) :
    Calls Tryz.prog 48 #[.complex .f32 a b, .complex .f32 a' b'] w fun e w' => ∃ n : Int, e = .returned (.int .i64 n) ∧ w = w' := by
  cases h1 : (FloatKind.f32.format.order a a' == some .lt)
  · cases h2 : (FloatKind.f32.format.order a a' == some .eq)
    · go_enter Tryz.func48, Tryz.ntmps48
      go_wp2
      go_ret
      exact ⟨_, rfl, rfl⟩
    · cases h3 : (FloatKind.f32.format.order b b' == some .lt)
      · cases h4 : (FloatKind.f32.format.order b b' == some .eq)
        · go_enter Tryz.func48, Tryz.ntmps48
          go_wp2
          go_ret
          exact ⟨_, rfl, rfl⟩
        · go_enter Tryz.func48, Tryz.ntmps48
          go_wp2
          go_ret
          exact ⟨_, rfl, rfl⟩
      · go_enter Tryz.func48, Tryz.ntmps48
        go_wp2
        go_ret
        exact ⟨_, rfl, rfl⟩
  · go_enter Tryz.func48, Tryz.ntmps48
    go_wp2
    go_ret
    exact ⟨_, rfl, rfl⟩
theorem flat_setx {ys : List (Nat × Nat)} : ∀ {i : Nat}, i < ys.length → ∀ (a b : Nat), flat cxC (ys.set i (a, b)) = (flat cxC ys).set i (.complex .f32 a b) := by
  induction ys with
  | nil => intro i h; simp at h
  | cons y ys ih =>
    intro i h a b
    cases i with
    | zero => rfl
    | succ i =>
      rw [List.set_cons_succ, flat_cons, flat_cons, ih (by simpa using h)]
      rfl
theorem own_cx {w : World} {base : Nat} {g n c : Nat} {zs : List (Nat × Nat)} (h : w.ownsRow base 28 1 (.slice (some ⟨g, 0, none⟩) n c) n (flat cxC zs)) (hl : zs.length = n) {j : Nat} (hj : j < n) :
    ∃ a b, zs[j]? = some (a, b) ∧ w.cell? ⟨g, j, none⟩ = some (.complex .f32 a b) := by
  obtain ⟨⟨a, b⟩, hx⟩ : ∃ x, zs[j]? = some x := ⟨_, List.getElem?_eq_getElem (by omega)⟩
  refine ⟨a, b, hx, ?_⟩
  rw [h.cellAt j (by omega)]
  have := flat_get (enc := cxC) (sz := 1) (fun _ => rfl) zs j _ hx 0 _ rfl
  simpa using this
theorem own_drew {w : World} {base : Nat} {E : TypeId} {sz : Nat} {v : Value} {n : Nat} {xs : List Value} (h : w.ownsRow base E sz v n xs) : w.drew.ownsRow base E sz v n xs := h
theorem own_drewNs {w : World} {base : Nat} {E : TypeId} {sz : Nat} {v : Value} {n : Nat} {xs : List Value} (h : w.ownsRow base E sz v n xs) (k : Nat) : (w.drewN k).ownsRow base E sz v n xs := h
theorem own_setx {w : World} {base : Nat} {g n c : Nat} {zs : List (Nat × Nat)} (h : w.ownsRow base 28 1 (.slice (some ⟨g, 0, none⟩) n c) n (flat cxC zs)) (hl : zs.length = n) {j : Nat} (hj : j < n) (a b : Nat) :
    (w.setCell ⟨g, j, none⟩ (.complex .f32 a b)).ownsRow base 28 1 (.slice (some ⟨g, 0, none⟩) n c) n (flat cxC (zs.set j (a, b))) := by
  rw [flat_setx (by omega)]
  exact (h.stored j _).1
end Go.Proofs.YthlphmojldbpkaaGreat
/- Sort2 -/
/- slices.SortFunc on at most eight points. -/
namespace Go.Proofs.YthlphmojldbpkaaGreat
open Go.RowKit
set_option maxRecDepth 100000 in
set_option maxHeartbeats 4000000 in
theorem bitsLen_any (n : Nat) (w : World) (hn : n ≤ 8) :
    Calls Tryz.prog 93 #[.int .u64 (n : Int)] w fun e w' => ∃ k : Int, e = .returned (.int .i64 k) ∧ w = w' := by
  have e : n = 0 ∨ n = 1 ∨ n = 2 ∨ n = 3 ∨ n = 4 ∨ n = 5 ∨ n = 6 ∨ n = 7 ∨ n = 8 := by omega
  rcases e with rfl | rfl | rfl | rfl | rfl | rfl | rfl | rfl | rfl
  all_goals
    go_enter Tryz.func93, Tryz.ntmps93
    go_wp2
    go_ret
    exact ⟨_, rfl, rfl⟩
end Go.Proofs.YthlphmojldbpkaaGreat
/- SortQ -/
/- slices.SortFunc on at most eight points: what holds of each point, holds of each behind it. -/
namespace Go.Proofs.YthlphmojldbpkaaGreat
open Go.RowKit
attribute [local go_sem] run_store_float run_store_complex
/-- as many points, each with a property -/
def LQ (Q : Nat × Nat → Prop) (n : Nat) (zs : List (Nat × Nat)) : Prop := zs.length = n ∧ ∀ z ∈ zs, Q z
theorem LQ.set {Q : Nat × Nat → Prop} {n i : Nat} {zs : List (Nat × Nat)} {v : Nat × Nat} (h : LQ Q n zs) (hv : Q v) : LQ Q n (zs.set i v) :=
  ⟨by rw [List.length_set]; exact h.1, fun z hz => by
    rcases List.mem_or_eq_of_mem_set hz with k | k
    · exact h.2 z k
    · rw [k]; exact hv⟩
set_option maxRecDepth 100000 in
set_option maxHeartbeats 4000000 in
theorem insSort_q (Q : Nat × Nat → Prop) (g n c base : Nat) (zs : List (Nat × Nat)) (w : World) (hn : n ≤ 12) (hl : LQ Q n zs) (ho : w.ownsRow base 28 1 (.slice (some ⟨g, 0, none⟩) n c) n (flat cxC zs)) :
    Calls Tryz.prog 116 #[.slice (some ⟨g, 0, none⟩) n c, .int .i64 0, .int .i64 (n : Int), .func (.func 48) #[] #[]] w fun e w' => e = .returned (.tuple #[]) ∧ ∃ zs' : List (Nat × Nat), LQ Q n zs' ∧ w'.ownsRow base 28 1 (.slice (some ⟨g, 0, none⟩) n c) n (flat cxC zs') ∧ Below base w w' := by
  have gb := (ho.lt g rfl).1
  have HO := Lib.hid ho
  have HL := Lib.hid hl
  clear ho hl
  go_enter Tryz.func116, Tryz.ntmps116
  go_wp2
  go_loopw [8] (fun i wr => ∃ (k : Nat) (zs' : List (Nat × Nat)), 1 ≤ k ∧ i = .int .i64 k ∧ LQ Q n zs' ∧ wr.ownsRow base 28 1 (.slice (some ⟨g, 0, none⟩) n c) n (flat cxC zs') ∧ Below base w wr) (fun i _ => n - (intOf i).toNat)
  case atStart => exact ⟨1, zs, Nat.le_refl _, by simp, HL.out, HO.out, Below.refl _ _⟩
  case round =>
    clear HO HL
    obtain ⟨k, zs1, hk, rfl, hl1, hown1, hw1⟩ := hrel
    by_cases hlt : k < n
    · have hki : (k : Int) < (n : Int) := by omega
      have hk0 : (0 : Int) ≤ (k : Int) := by omega
      have O1 := Lib.hid hown1
      have L1 := Lib.hid hl1
      have W1 := Lib.hid hw1
      clear hown1 hl1 hw1
      go_wp2
      go_loopw [9] (fun i wr => ∃ (j : Nat) (zs' : List (Nat × Nat)), j < n ∧ i = .int .i64 j ∧ LQ Q n zs' ∧ wr.ownsRow base 28 1 (.slice (some ⟨g, 0, none⟩) n c) n (flat cxC zs') ∧ Below base w wr) (fun i _ => (intOf i).toNat)
      case atStart => exact ⟨k, zs1, hlt, rfl, L1.out, O1.out, W1.out⟩
      case round =>
        clear O1 L1 W1
        obtain ⟨j, zs2, hj, rfl, hl2, hown2, hw2⟩ := hrel
        by_cases hj0 : 0 < j
        · obtain ⟨J, hJ⟩ : ∃ J, J = j - 1 := ⟨_, rfl⟩
          obtain ⟨a, b, hx1, c1⟩ := own_cx hown2 hl2.1 (j := j) (by omega)
          obtain ⟨a', b', hx0, c0⟩ := own_cx hown2 hl2.1 (j := J) (by omega)
          have O2 := Lib.hid hown2
          have L2 := Lib.hid hl2
          have Q1 := Lib.hid (hl2.2 _ (List.mem_of_getElem? hx1))
          have Q0 := Lib.hid (hl2.2 _ (List.mem_of_getElem? hx0))
          have f1 := hown2.frozenAt j
          have f0 := hown2.frozenAt J
          have lb := (hown2.lt g rfl).2
          have hji0 : (0 : Int) < (j : Int) := by omega
          have hji1 : (0 : Int) ≤ (j : Int) := by omega
          have hjin : (j : Int) < (n : Int) := by omega
          have hJi0 : (0 : Int) ≤ (J : Int) := by omega
          have hJin : (J : Int) < (n : Int) := by omega
          have hwr : IntKind.i64.wrap ((j : Int) - 1) = (J : Int) := by rw [IntKind.wrap_i64]; omega
          have hgt : decide ((0 : Int) < (j : Int)) = true := by simpa using hj0
          have hne : ¬ J = j := by omega
          have hne' : ¬ j = J := by omega
          have HJ := Lib.hid hJ
          clear hx0 hx1 hown2 hl2 hJ
          go_wp2_with fail
          go_region_held3 (fun w' => (∀ b o, b < wr.heap.size → w'.cell? ⟨b, o, none⟩ = wr.cell? ⟨b, o, none⟩) ∧ Below wr.heap.size wr w') (first | assumption | exact startS _ | exact stepS (by assumption) (by assumption)) (first | (go_at_call 48; refine (orbF_any _ _ _ _ _).mono ?_; rintro e w5 ⟨nn, rfl, rfl⟩))
          by_cases hneg : nn < 0
          · go_wp2_with fail
            go_region_law (fail)
            all_goals
              go_wp2
              go_roundw
              case rel =>
                first
                  | exact ⟨J, (zs2.set j (a', b')).set J (a, b), by have := HJ.out; omega, rfl, (L2.out.set Q0.out).set Q1.out, own_drew (own_drew (own_setx (own_setx O2.out L2.out.1 hj a' b') (by simp [L2.out.1]) (by have := HJ.out; omega) a b)), ((hw2.setCell gb _).setCell gb _).drew.drew⟩
                  | exact ⟨J, (zs2.set J (a, b)).set j (a', b'), by have := HJ.out; omega, rfl, (L2.out.set Q1.out).set Q0.out, own_drew (own_drew (own_setx (own_setx O2.out L2.out.1 (by have := HJ.out; omega) a b) (by simp [L2.out.1]) hj a' b')), ((hw2.setCell gb _).setCell gb _).drew.drew⟩
              case measure => simp [intOf]; have := HJ.out; omega
          · go_wp2
            go_roundw
            case rel => exact ⟨k + 1, zs2, by omega, by go_num, L2.out, own_drew O2.out, hw2.drew⟩
            case measure => simp [intOf]; omega
        · obtain rfl : j = 0 := by omega
          have O2 := Lib.hid hown2
          have L2 := Lib.hid hl2
          have W2 := Lib.hid hw2
          clear hown2 hl2 hw2
          go_wp2_with fail
          go_quiet (fail)
          go_wp2
          go_roundw
          case rel => exact ⟨k + 1, zs2, by omega, by go_num, L2.out, own_drewNs O2.out _, below_drewN W2.out _⟩
          case measure => simp [intOf]; omega
    · go_wp2
      go_end0
      exact ⟨rfl, zs1, hl1, hown1, hw1⟩
set_option maxRecDepth 100000 in
set_option maxHeartbeats 4000000 in
theorem pdq_q (Q : Nat × Nat → Prop) (g n c base : Nat) (k : Int) (zs : List (Nat × Nat)) (w : World) (hn : n ≤ 12) (hl : LQ Q n zs) (ho : w.ownsRow base 28 1 (.slice (some ⟨g, 0, none⟩) n c) n (flat cxC zs)) :
    Calls Tryz.prog 92 #[.slice (some ⟨g, 0, none⟩) n c, .int .i64 0, .int .i64 (n : Int), .int .i64 k, .func (.func 48) #[] #[]] w fun e w' => e = .returned (.tuple #[]) ∧ ∃ zs' : List (Nat × Nat), LQ Q n zs' ∧ w'.ownsRow base 28 1 (.slice (some ⟨g, 0, none⟩) n c) n (flat cxC zs') ∧ Below base w w' := by
  have h12 : (n : Int) ≤ 12 := by omega
  have HO := Lib.hid ho
  clear ho
  go_enter Tryz.func92, Tryz.ntmps92
  go_wp2
  go_loopw [1, 2] (fun a b wr => a = .int .i64 0 ∧ b = .int .i64 (n : Int) ∧ wr = w) (fun _ _ _ => 0)
  case atStart => exact ⟨rfl, rfl, rfl⟩
  case round =>
    obtain ⟨rfl, rfl, rfl⟩ := hrel
    go_wp2_with fail
    refine (insSort_q Q g n c base zs _ hn hl HO.out).mono ?_
    rintro e w1 ⟨rfl, zs', hl', ho', hb'⟩
    have HO' := Lib.hid ho'
    clear ho'
    go_wp2
    refine bodyPost_ret (results_none rfl _ _ _) rfl ?_
    exact ⟨rfl, zs', hl', HO'.out, hb'⟩
theorem sortFunc_q (Q : Nat × Nat → Prop) (g n c base : Nat) (zs : List (Nat × Nat)) (w : World) (hn : n ≤ 8) (hl : LQ Q n zs) (ho : w.ownsRow base 28 1 (.slice (some ⟨g, 0, none⟩) n c) n (flat cxC zs)) :
    Calls Tryz.prog 47 #[.slice (some ⟨g, 0, none⟩) n c, .func (.func 48) #[] #[]] w fun e w' => e = .returned (.tuple #[]) ∧ ∃ zs' : List (Nat × Nat), LQ Q n zs' ∧ w'.ownsRow base 28 1 (.slice (some ⟨g, 0, none⟩) n c) n (flat cxC zs') ∧ Below base w w' := by
  have HO := Lib.hid ho
  clear ho
  have hw : IntKind.u64.wrap (n : Int) = (n : Int) := by
    have : ∀ n : Nat, n < 9 → IntKind.u64.wrap (n : Int) = (n : Int) := by decide
    exact this n (by omega)
  go_enter Tryz.func47, Tryz.ntmps47
  go_wp2_with fail
  refine (bitsLen_any n _ hn).mono ?_
  rintro e w' ⟨k, rfl, rfl⟩
  go_wp2_with fail
  refine (pdq_q Q g n c base k zs _ (by omega) hl HO.out).mono ?_
  rintro e w1 ⟨rfl, zs', hl', ho', hb'⟩
  have HO' := Lib.hid ho'
  clear ho'
  go_wp2
  go_end0
  exact ⟨rfl, zs', hl', HO'.out, hb'⟩
end Go.Proofs.YthlphmojldbpkaaGreat
/- Orb -/
/- OrbitOf at small whole points: how many points there are. -/
namespace Go.Proofs.YthlphmojldbpkaaGreat
open Go.RowKit
theorem infoCx : (Tryz.prog.info? 28).map (fun i => (i.zero, i.size, i.bytes)) = some (some (.complex .f32 0 0), 1, 8) := by kernel_rfl
end Go.Proofs.YthlphmojldbpkaaGreat
/- OrbQ -/
/- OrbitOf at a point: its points are images of it. -/
namespace Go.Proofs.YthlphmojldbpkaaGreat
open Go.RowKit
theorem Rd.cq {w : World} {B : Nat} {A : Option Addr} {n k : Nat} {xs : List (Nat × Nat)} (h : Rd cxC 1 w B A n xs) (hk : k < n) :
    ∃ b off x, A = some ⟨b, off, none⟩ ∧ b < B ∧ xs[k]? = some x ∧ w.cell? ⟨b, off + k, none⟩ = some (.complex .f32 x.1 x.2) := by
  obtain ⟨b, off, x, e, hb, hx, hc⟩ := h.at_ hk
  have := hc 0 _ rfl
  rw [Nat.mul_one, Nat.add_zero] at this
  exact ⟨b, off, x, e, hb, hx, this⟩
set_option maxRecDepth 100000 in
set_option maxHeartbeats 4000000 in
theorem indexCx_q (q : Nat × Nat) (G : Option Addr) (m cc : Nat) (l : List (Nat × Nat)) (w : World) (hm : m ≤ 1048576) (hl : Rd cxC 1 w w.heap.size G m l) :
    Calls Tryz.prog 91 #[.slice G m cc, .complex .f32 q.1 q.2] w fun e w' => (∃ i : Int, e = .returned (.int .i64 i) ∧ (0 ≤ i → 0 < m)) ∧ w = w' := by
  go_enter Tryz.func91, Tryz.ntmps91
  go_wp2
  go_loop [5, 8] (fun _ i => ∃ k : Nat, k ≤ m ∧ i = .int .i64 k) (fun _ i => m - (intOf i).toNat)
  case atStart => exact ⟨0, Nat.zero_le _, rfl⟩
  case round =>
    obtain ⟨k, hk, rfl⟩ := hrel
    by_cases hlt : k < m
    · obtain ⟨b, off, x, rfl, hbl, hx, c0⟩ := hl.cq hlt
      have hki : (k : Int) < (m : Int) := by omega
      have hk0 : (0 : Int) ≤ (k : Int) := by omega
      clear hx
      obtain ⟨z1, e1⟩ : ∃ z, (FloatKind.f32.format.order q.1 x.1 == some .eq) = z := ⟨_, rfl⟩
      obtain ⟨z2, e2⟩ : ∃ z, (FloatKind.f32.format.order q.2 x.2 == some .eq) = z := ⟨_, rfl⟩
      cases z1 <;> cases z2
      case true.true =>
        go_wp2
        go_ret
        exact ⟨⟨_, rfl, fun _ => by omega⟩, rfl⟩
      all_goals
        go_wp2
        go_round
        case rel => exact ⟨k + 1, by omega, by go_num⟩
        case measure => simp [intOf]; omega
    · obtain rfl : k = m := by omega
      go_wp2
      go_ret
      exact ⟨⟨_, rfl, fun h => by omega⟩, rfl⟩
theorem containsCx_q (q : Nat × Nat) (G : Option Addr) (m cc : Nat) (l : List (Nat × Nat)) (w : World) (hm : m ≤ 1048576) (hl : Rd cxC 1 w w.heap.size G m l) :
    Calls Tryz.prog 46 #[.slice G m cc, .complex .f32 q.1 q.2] w fun e w' => (∃ b : Bool, e = .returned (.bool b) ∧ (b = true → 0 < m)) ∧ w = w' := by
  go_enter Tryz.func46, Tryz.ntmps46
  go_wp2_with (go_at_call 91; refine (indexCx_q q _ _ _ l _ hm hl).mono ?_; rintro e w1 ⟨⟨i, rfl, hi⟩, rfl⟩; have HI := Lib.hid hi; clear hi)
  go_ret
  exact ⟨⟨_, rfl, fun h => HI.out (by simpa using h)⟩, rfl⟩
/-- an image of a point under a symmetry of mirrors of a kind -/
def ImgQ (kind : Int) (p : Nat × Nat) (z : Nat × Nat) : Prop := ∃ g ∈ symsL kind, z = actI g.1 g.2 p.1 p.2
set_option maxRecDepth 100000 in
set_option maxHeartbeats 8000000 in
theorem orbitOf_q (kind : Nat) (p : Nat × Nat) (w : World) (hk4 : kind < 4) (hpt : pointB p.1 p.2 = true) :
    Calls Tryz.prog 17 #[.int .i64 (kind : Int), .complex .f32 p.1 p.2] w fun e w' => ∃ A c n, n ≤ 8 ∧ e = .returned (.slice A n c) ∧ (∃ zs, LQ (ImgQ (kind : Int) p) n zs ∧ w'.ownsRow w.heap.size 28 1 (.slice A n c) n (flat cxC zs)) ∧ Below w.heap.size w w' := by
  obtain ⟨i0, hi, hz0, hz1, hz2⟩ := info_parts infoCx
  obtain ⟨l, hl⟩ : ∃ l, l = symsL (kind : Int) := ⟨_, rfl⟩
  have h8 : l.length ≤ 8 := by rw [hl]; exact symsUp_len _ _
  have h1 : 0 < l.length := by
    rw [hl]
    have : ∀ k : Nat, k < 4 → 0 < (symsL (k : Int)).length := by decide
    exact this kind hk4
  have hok : ∀ g ∈ l, inB g.1 0 3 = true := by
    rw [hl]
    have : ∀ k : Nat, k < 4 → ∀ g ∈ symsL (k : Int), inB g.1 0 3 = true := by decide
    exact this kind hk4
  have ks := fun w => symsOf_any (kind : Int) w
  have HL := Lib.hid hl
  rw [← hl] at ks
  have KS := Lib.hid ks
  have OK := Lib.hid hok
  clear ks hl hok
  go_enter Tryz.func17, Tryz.ntmps17
  go_wp2_with fail
  refine (isPoint_any _ _ _).mono ?_
  rw [hpt]
  rintro e w' ⟨rfl, rfl⟩
  go_wp2_with fail
  obtain ⟨V, hVe⟩ : ∃ V, V = w.alloc (Obj.cells #[] 28) := ⟨_, rfl⟩
  have hV : Below w.heap.size w V := by rw [hVe]; (repeat (first | with_reducible assumption | exact Below.refl _ _ | (refine Below.setCell ?_ (by first | exact Nat.le_refl _ | (simp; done) | omega | (simp; omega)) _) | (refine below_drewN ?_ _) | (refine Below.drew ?_) | (refine Below.alloc ?_ (by first | exact Nat.le_refl _ | (simp; done) | omega | (simp; omega)) _) | (refine then_ ?_ (by with_reducible assumption)) | assumption | (refine then_ ?_ (by assumption))))
  have zV : V.heap.size = w.heap.size + 1 := by rw [hVe]; simp
  have o0 : V.ownsRow w.heap.size 28 1 (.slice (some ⟨w.heap.size, 0, none⟩) 0 0) 0 [] := by
    rw [hVe]
    exact World.ownsRow_lit (base := w.heap.size) w #[] 0 (Nat.le_refl _) (by simp [maxLen]) rfl
  rw [← hVe]
  clear hVe
  refine (KS.out _).mono ?_
  rintro e w1 ⟨G, cG, rfl, ho1, hb1⟩
  obtain ⟨ga, rfl, _, _⟩ := owns_slice_at ho1 h1
  have r1 := Rd.of_own symC_len rfl ho1
  obtain ⟨g1, g2⟩ := ho1.lt ga rfl
  have O0 := Lib.hid (owns_below o0 hb1)
  have hW1 := then_ hV hb1
  have z1 := hW1.size
  clear o0 ho1 hb1 hV
  go_wp2_with fail
  go_loopw [5, 16] (fun v i wr => ∃ (k : Nat) (zs : List (Nat × Nat)) (n : Nat), k ≤ l.length ∧ i = .int .i64 k ∧ n ≤ k ∧ (k = 0 ∨ 0 < n) ∧ LQ (ImgQ (kind : Int) p) n zs ∧ (∃ A c, v = .slice A n c) ∧ wr.ownsRow w.heap.size 28 1 v n (flat cxC zs) ∧ Off v ga ∧ Rd symC 2 wr w1.heap.size (some ⟨ga, 0, none⟩) l.length l ∧ w1.heap.size ≤ wr.heap.size ∧ Below w.heap.size w wr) (fun _ i _ => l.length - (intOf i).toNat)
  case atStart => exact ⟨0, [], 0, by omega, rfl, Nat.le_refl _, .inl rfl, ⟨rfl, fun z h => by cases h⟩, ⟨_, _, rfl⟩, O0.out, by unfold Off Value.ownBlock; simp; omega, r1, Nat.le_refl _, hW1⟩
  case round =>
    clear O0 r1 hW1
    obtain ⟨k, zs, n, hk, rfl, hnk, hn0, hlq, ⟨A1, c1, rfl⟩, hown, hoff, hrd, hsz, hw⟩ := hrel
    have OW := Lib.hid hown
    have OFF := Lib.hid hoff
    have RD := Lib.hid hrd
    have LQ1 := Lib.hid hlq
    by_cases hlt : k < l.length
    · obtain ⟨b, off, t, f, e, _, hx, c0, c1'⟩ := hrd.sym hlt
      injection e with e
      injection e with e1 e2
      subst e1 e2
      have ht := OK.out _ (List.mem_of_getElem? hx)
      dsimp only at ht
      have hmem : (t, f) ∈ symsL (kind : Int) := by rw [← HL.out]; exact List.mem_of_getElem? hx
      simp only [Nat.zero_add] at c0 c1'
      have hki : (k : Int) < (l.length : Int) := by omega
      have hk0 : (0 : Int) ≤ (k : Int) := by omega
      have hro := Lib.hid (Rd.of_own cxC_len hlq.1 hown)
      obtain ⟨q, hq⟩ : ∃ q, q = actI t f p.1 p.2 := ⟨_, rfl⟩
      have ka := fun w => actSym_ok t f p.1 p.2 w ht hpt
      rw [← hq] at ka
      have KA := Lib.hid ka
      have HQ := Lib.hid (show ImgQ (kind : Int) p q from ⟨(t, f), hmem, hq⟩)
      clear ka hq hx hrd hown hoff hlq hmem
      go_wp2_with fail
      obtain ⟨W, hWe⟩ : ∃ W, W = wr.alloc (Obj.cells #[.int .i64 t, .bool f] 58) := ⟨_, rfl⟩
      have hW : Below wr.heap.size wr W := by rw [hWe]; (repeat (first | with_reducible assumption | exact Below.refl _ _ | (refine Below.setCell ?_ (by first | exact Nat.le_refl _ | (simp; done) | omega | (simp; omega)) _) | (refine below_drewN ?_ _) | (refine Below.drew ?_) | (refine Below.alloc ?_ (by first | exact Nat.le_refl _ | (simp; done) | omega | (simp; omega)) _) | (refine then_ ?_ (by with_reducible assumption)) | assumption | (refine then_ ?_ (by assumption))))
      have zW : wr.heap.size < W.heap.size := by rw [hWe]; simp
      rw [← hWe]
      clear hWe
      refine (KA.out _).mono ?_
      rintro e w2 ⟨rfl, hb2⟩
      have hB2 := then_ hW hb2
      have z2 := hB2.size
      have OW2 := Lib.hid (owns_below OW.out hB2)
      have hw2 := then_ hw hB2
      simp only [cxV]
      clear hb2 hW c0 c1'
      go_wp2_with fail
      refine (containsCx_q q A1 _ c1 zs _ (by omega) (hro.out.step hB2)).mono ?_
      rintro e w' ⟨⟨hc, rfl, hcn⟩, rfl⟩
      have HCN := Lib.hid hcn
      clear hcn
      cases hc
      · go_wp2_with (at_builtin; refine wpList_append_own_at _ rfl _ _ 61 rfl w.heap.size 28 i0 (.complex .f32 0 0) 1 8 Tryz.underlying61 hi hz0 hz1 hz2 rfl (by decide) _ _ _ rfl (OW2.out.alloc _) ⟨w2.heap.size, 0, none⟩ 1 1 [.complex .f32 q.1 q.2] rfl rfl ?c13 ?c23 ?c33 ?c43 ?c53 ?_; (case c13 => exact World.news_of_block (cs := #[.complex .f32 q.1 q.2]) (t := 28) (fr := (0, 0)) (heap_alloc_new w2 _)); (case c23 => simp [Value.oneCell']); (case c33 => unfold maxLen; omega); (case c43 => omega); (case c53 => (have := Below.size hw2; simp only [World.size_alloc]; omega)); intro v3 w3 hown3 hg3 hne3 hat3; simp only [World.size_alloc] at hat3; have GB3 := Lib.hid hg3; have OW3 := Lib.hid hown3; have BW3 := below_append hw2 OW2.out hg3; have NB3 := Lib.hid hat3; clear hown3 hg3 hne3 hat3)
        go_roundw
        case rel =>
          obtain ⟨A3, c3, rfl⟩ := owns_slice OW3.out
          have hA := (show Below w2.heap.size w2 (w2.alloc (Obj.cells #[.complex .f32 q.1 q.2] 28)) by (repeat (first | with_reducible assumption | exact Below.refl _ _ | (refine Below.setCell ?_ (by first | exact Nat.le_refl _ | (simp; done) | omega | (simp; omega)) _) | (refine below_drewN ?_ _) | (refine Below.drew ?_) | (refine Below.alloc ?_ (by first | exact Nat.le_refl _ | (simp; done) | omega | (simp; omega)) _) | (refine then_ ?_ (by with_reducible assumption)) | assumption | (refine then_ ?_ (by assumption)))))
          refine ⟨k + 1, zs ++ [q], n + 1, by omega, by go_num, by omega, .inr (by omega), ⟨by rw [List.length_append, LQ1.out.1]; rfl, fun z hz => ?_⟩, ⟨_, _, rfl⟩, ?_, OFF.out.next (by omega) NB3.out, ?_, ?_, BW3⟩
          · rcases List.mem_append.1 hz with h | h
            · exact LQ1.out.2 z h
            · rw [List.mem_singleton.1 h]; exact HQ.out
          · rw [flat_append]
            exact OW3.out
          · exact Rd.grown (Rd.keep RD.out (fun p hp => (then_ hB2 hA).cell (p := p) (by omega))) GB3.out (by simp only [World.size_alloc]; omega) OFF.out
          · have := GB3.out.size
            simp only [World.size_alloc] at this
            omega
        case measure => simp [intOf]; omega
      · go_wp2
        go_roundw
        case rel => exact ⟨k + 1, zs, n, by omega, by go_num, by omega, .inr (by first | exact HCN.out rfl | exact HCN.out trivial), LQ1.out, ⟨_, _, rfl⟩, OW2.out, OFF.out, Rd.keep RD.out (fun p hp => hB2.cell (p := p) (by omega)), by omega, hw2⟩
        case measure => simp [intOf]; omega
    · obtain rfl : k = l.length := by omega
      have hpos : 0 < n := by omega
      obtain ⟨g, rfl, _, _⟩ := owns_slice_at hown hpos
      have OW2 := Lib.hid hown
      clear hown hoff hrd
      go_wp2_with fail
      refine (sortFunc_q (ImgQ (kind : Int) p) g n c1 w.heap.size _ _ (by omega) LQ1.out OW2.out).mono ?_
      rintro e w2 ⟨rfl, zs', hlz', ho2, hb2⟩
      have hw2 := hw.trans hb2
      have O2 := Lib.hid ho2
      have L2 := Lib.hid hlz'
      clear ho2 hb2 hlz'
      go_wp2
      go_ret
      exact ⟨_, _, n, by omega, rfl, ⟨zs', L2.out, O2.out⟩, hw2⟩
end Go.Proofs.YthlphmojldbpkaaGreat
/- PlaceD -/
/- DrawPlace: a kind of mirrors and a point. -/
namespace Go.Proofs.YthlphmojldbpkaaGreat
open Go.RowKit
attribute [local go_sem] run_store_float run_store_complex
set_option maxHeartbeats 4000000 in
theorem drawPlace_any (A : Option Addr) (m c : Nat) (bs : List Int) (w : World) (hm : m ≤ 4096) (hr : Rd byteC 1 w w.heap.size A m bs) (hb : ∀ x ∈ bs, 0 ≤ x ∧ x ≤ 255) :
    Calls Tryz.prog 15 #[.slice A m c] w fun r w' => ∃ (K : Nat) (p : Nat × Nat), K < 4 ∧ speedOk p ∧ r = .returned (.tuple #[.int .i64 (K : Int), .complex .f32 p.1 p.2]) ∧ Below w.heap.size w w' := by
  go_enter Tryz.func15, Tryz.ntmps15
  go_wp2_with fail
  (with_reducible refine (l1New_any A m c bs _ hm hr).mono ?_)
  rintro r w1 ⟨g, rfl, hg, hc1, hb1⟩
  have hcb : CurB w1 g A m c bs := ⟨hc1, (hr.below hb1).more (by omega), hc1.lt, hb, by unfold maxLen; omega⟩
  clear hc1 hb hr
  go_wp2_with fail
  (with_reducible refine (l1BelowC g A m c bs 4 _ (by omega) (by omega) hcb).mono ?_)
  rintro r w2 ⟨K, hK, rfl, hc2, hg2⟩
  go_wp2_with fail
  (with_reducible refine (l1PointC g A m c bs _ hc2).mono ?_)
  rintro r w3 ⟨⟨px, py⟩, hp, rfl, hc3, hg3⟩
  have HP := Lib.hid hp
  have hB := below_of_grown (below_of_grown hb1 hg2 hg) hg3 hg
  clear hp hcb hc2 hc3 hg2 hg3 hb1
  go_wp2
  exact bodyPost_ret (v := .tuple #[.int .i64 (K : Int), .complex .f32 px py]) (by simp [results, Tryz.results15, go_sem]) rfl ⟨K, (px, py), by omega, HP.out, rfl, hB⟩
end Go.Proofs.YthlphmojldbpkaaGreat
/- Open -/
/- A law's argument: slices of structs of floats, opened. -/
namespace Go.Proofs.YthlphmojldbpkaaGreat
open Go.ChangeShapes Go.WideShapes Go.ChangeAt Go.RowKit Go.Joins Go.Deep
section
variable {H : Type} {enc : TypeId × Value → H} {P : Program} {w : World} {base : Nat} {spare : Nat → Bool} {held : Bool}
end
theorem list_of {α : Type} (n : Nat) (p : Nat → α → Prop) (h : ∀ i, i < n → ∃ x, p i x) : ∃ xs : List α, xs.length = n ∧ ∀ (k : Nat) x, xs[k]? = some x → p k x := by
  induction n with
  | zero => exact ⟨[], rfl, fun k x hx => by simp at hx⟩
  | succ n ih =>
    obtain ⟨xs, hl, hp⟩ := ih (fun i hi => h i (by omega))
    obtain ⟨x, hx⟩ := h n (by omega)
    refine ⟨xs ++ [x], by simp [hl], fun k y hy => ?_⟩
    by_cases hk : k < n
    · rw [List.getElem?_append_left (by omega)] at hy
      exact hp k y hy
    · have hkn : k = n := by
        have := (List.getElem?_eq_some_iff.1 hy).1
        simp [hl] at this
        omega
      subst hkn
      rw [List.getElem?_append_right (by omega), hl] at hy
      simp at hy
      subst hy
      exact hx
theorem rd_of_cells_q {α : Type} {enc : α → List Value} {sz : Nat} {w : World} {a : Addr} {n : Nat} {Q : α → Prop} (hsz : 0 < sz) (he : ∀ x, (enc x).length = sz)
    (h : ∀ i, i < n → ∃ x : α, Q x ∧ ∀ j u, (enc x)[j]? = some u → w.cell? (a.add (i * sz + j)) = some u) : ∃ xs, Rd enc sz w w.heap.size (some a) n xs ∧ ∀ x ∈ xs, Q x := by
  obtain ⟨xs, hl, hp⟩ := list_of n _ h
  refine ⟨xs, ⟨hl, fun hn => ?_⟩, fun x hx => ?_⟩
  · obtain ⟨x, _, hx⟩ := h 0 hn
    have h0 : ∃ u, (enc x)[0]? = some u := ⟨_, List.getElem?_eq_getElem (by rw [he]; exact hsz)⟩
    obtain ⟨u, hu⟩ := h0
    have hc := hx 0 u hu
    have ha : a.add (0 * sz + 0) = a := by simp [Addr.add]
    rw [ha] at hc
    have hs : a.spot = none := by
      unfold World.cell? at hc
      split at hc
      · cases hsp : a.spot with
        | none => rfl
        | some q => simp [hsp] at hc
      · cases hc
    obtain ⟨b, off, sp⟩ := a
    simp only at hs
    subst hs
    refine ⟨b, off, rfl, World.block_lt_of_cell? w _ hc, fun k x hx j u hu => ?_⟩
    have := (hp k x hx).2 j u hu
    unfold Addr.add at this
    split at this
    · rename_i h0
      rw [show off + k * sz + j = off from by omega]
      exact this
    · rw [show off + k * sz + j = off + (k * sz + j) from by omega]
      exact this
  · obtain ⟨k, hk⟩ := List.getElem?_of_mem hx
    exact (hp k x hk).1
section
variable {H : Type} {enc : TypeId × Value → H} {P : Program} {w : World} {base : Nat} {spare : Nat → Bool} {held : Bool}
/-- a slice of bytes -/
theorem open_bytes {r : Reach} {b0 : Nat} {t e : TypeId} {v : Value} {d : DataW H} {ps : List MemPlace} (ht : P.underlying t = some (.slice e)) (he : P.underlying e = some (.int .u8)) (hc : P.cellsOf e = 1)
    (hv : Value.okWide P w r b0 t v) (h : DataW.Trod enc P w base spare held t v d ps) :
    ∃ A n c bs, v = .slice A n c ∧ n ≤ maxLen ∧ Rd byteC 1 w w.heap.size A n bs ∧ ∀ x ∈ bs, 0 ≤ x ∧ x ≤ 255 := by
  obtain ⟨a0, len, cap, rfl⟩ := okWide_slice ht hv
  obtain ⟨fuel, hf⟩ := h
  rcases open_ints ht he hc hf with ⟨hcs, _⟩ | ⟨a, l, c, zs, hcs, _, hl, hm, hz, _, hcell, hwz⟩
  · simp [Value.cells] at hcs
    obtain ⟨rfl, rfl, rfl⟩ := hcs
    exact ⟨none, 0, 0, [], rfl, by simp [maxLen], Rd.nil_, fun x hx => by cases hx⟩
  · simp [Value.cells] at hcs
    obtain ⟨rfl, rfl, rfl⟩ := hcs
    have hx : ∃ xs, Rd byteC 1 w w.heap.size (some a) len xs ∧ ∀ x ∈ xs, 0 ≤ x ∧ x ≤ 255 := by
      refine rd_of_cells_q (by omega) (fun _ => rfl) (fun i hi => ?_)
      have hlt : i < zs.length := by rw [hz]; split <;> omega
      have e := hcell i hlt
      have hw := hwz (zs.getD i 0) (by rw [List.getD_eq_getElem?_getD, List.getElem?_eq_getElem hlt]; exact List.getElem_mem hlt)
      generalize zs.getD i 0 = z at *
      refine ⟨z, ?_, fun j u hu => ?_⟩
      · simp [Lit.wf, IntKind.min, IntKind.max, IntKind.signed, IntKind.bits] at hw; omega
      · have hj : j = 0 := by
          have := (List.getElem?_eq_some_iff.1 hu).1
          simp [byteC] at this
          exact this
        subst hj
        simp only [Nat.mul_one, Nat.add_zero]
        rw [e]
        exact hu
    obtain ⟨xs, hx, hq⟩ := hx
    exact ⟨some a, len, cap, xs, rfl, by omega, hx, hq⟩
end
section
variable {H : Type} {enc : TypeId × Value → H} {w : World} {base : Nat} {spare : Nat → Bool} {held : Bool}
end
end Go.Proofs.YthlphmojldbpkaaGreat
/- SeenL -/
/- What is seen in a drawn show: plain. -/
namespace Go.Proofs.YthlphmojldbpkaaGreat
open Go.RowKit
theorem stepsD_L {st : Nat} (h : st ∈ stepsD) : st ∈ stepsL := by
  have : ∀ x ∈ stepsD, x ∈ stepsL := by decide
  exact this st h
theorem seen_size {u : Shw} (hd : Drawn u) : ∃ N : Nat, u.sz * u.sz = (N : Int) ∧ N ≤ maxLen ∧ ∃ q : Nat, u.sz = (q : Int) + 1 ∧ q < 6 ∧ N = (q + 1) * (q + 1) := by
  obtain ⟨h1, h2⟩ := inB_true hd.good.sz
  have h3 := hd.szl
  obtain ⟨q, hq⟩ : ∃ q : Nat, u.sz = (q : Int) + 1 := ⟨(u.sz - 1).toNat, by omega⟩
  have hq6 : q < 6 := by omega
  refine ⟨(q + 1) * (q + 1), ?_, ?_, q, hq, hq6, rfl⟩
  · rw [hq]; push_cast; rfl
  · have : (q + 1) * (q + 1) ≤ 6 * 6 := Nat.mul_le_mul (by omega) (by omega)
    unfold maxLen; omega
theorem seen_all {u : Shw} {N : Nat} {xs : List Col} (hd : Drawn u) (hN : ∃ q : Nat, u.sz = (q : Int) + 1 ∧ q < 6 ∧ N = (q + 1) * (q + 1)) (hxs : xs = takeUp u.mir u.sz u.st (glassUp u.sh u.bs u.sh.length) u.li N) :
    xs.length = N ∧ spreadOk u.mir u.sz xs = true ∧ spreadL u.mir u.sz xs = (u.sz, spreadUp u.mir u.sz xs xs.length) ∧ (spreadUp u.mir u.sz xs xs.length).length = N ∧ sameP u.sz xs u.sz (spreadUp u.mir u.sz xs xs.length) = true ∧ (∀ g ∈ symsL u.mir, inS (symsP u.sz xs) g = true) ∧ pictB u.sz xs = true ∧ xs.all colB = true := by
  obtain ⟨q, hq, hq6, hNN⟩ := hN
  obtain ⟨m0, m3⟩ := inB_true hd.good.mir
  obtain ⟨K, hK⟩ : ∃ K : Nat, u.mir = (K : Int) := ⟨u.mir.toNat, by omega⟩
  have hK4 : K < 4 := by omega
  have TP : TakenP K q xs := by
    rw [hxs, hK, hq, hNN]
    exact taken_p hK4 (by omega) (stepsD_L hd.stl) (glassUp_ok _ _ _) hd.good.li
  have hl : xs.length = N := by rw [hxs]; exact takeUp_len _ _ _ _ _ _
  obtain ⟨sp1, sp2⟩ := spread_pic TP.1 hK4
  rw [hK, hq]
  refine ⟨hl, ?_, sp1, by rw [spreadUp_len]; exact hl, taken_spread hK4 hq6 TP, fun g hg => taken_has hK4 TP hg, pic_ok TP.1, TP.1.2.2⟩
  unfold spreadOk
  rw [pic_ok TP.1]
  rw [show inB (K : Int) 0 3 = true by unfold inB; simp; omega]
  rfl
theorem Rd.size {α : Type} {enc : α → List Value} {sz : Nat} {w : World} {B : Nat} {A : Option Addr} {n : Nat} {xs : List α} (_ : Rd enc sz w B A n xs) : True := trivial
theorem Rd.alloc {α : Type} {enc : α → List Value} {sz : Nat} {w : World} {A : Option Addr} {n : Nat} {xs : List α} (h : Rd enc sz w w.heap.size A n xs) (_ : True) (o : Obj) : Rd enc sz (w.alloc o) (w.alloc o).heap.size A n xs := h.step (Below.alloc (Below.refl _ _) (Nat.le_refl _) _)
end Go.Proofs.YthlphmojldbpkaaGreat
