
/- firstCell, l4First: the least cell to which symmetries of mirrors lead. -/
import Derived.Test.YthlkpopmoodmgaaSyms
import Derived.Test.YthlkpopmoodmgaaCellTo
namespace Go.Proofs.Ythlkpopmoodmgaa
open Go.RowKit
attribute [local go_sem] run_store_float run_store_complex

def firstL (l : List (Int × Bool)) (size cell : Int) (k : Nat) : Int := (l.take k).foldl (fun o g => if cellV size cell g.1 g.2 < o then cellV size cell g.1 g.2 else o) cell
def firstI (kind size cell : Int) : Int := firstL (symsL kind) size cell (symsL kind).length
theorem firstL_succ {l : List (Int × Bool)} {k : Nat} {t : Int} {f : Bool} (size cell : Int) (h : l[k]? = some (t, f)) : firstL l size cell (k + 1) = if cellV size cell t f < firstL l size cell k then cellV size cell t f else firstL l size cell k := by
  unfold firstL
  rw [List.take_add_one, h, List.foldl_append]
  rfl

set_option maxRecDepth 10000 in
set_option maxHeartbeats 2000000 in
theorem firstCell_any (kind size cell : Int) (w : World) :
    Calls Try.prog 67 #[.int .i64 kind, .int .i64 size, .int .i64 cell] w fun e w' => e = .returned (.int .i64 (firstI kind size cell)) ∧ Below w.heap.size w w' := by
  go_enter Try.func67, Try.ntmps67
  go_wp2_with (go_at_call 48; refine (symsOf_any _ _).mono ?_; rintro e w1 ⟨A, c, rfl, ho1, hb1⟩; have r1 := Rd.of_own symC_len rfl ho1; clear ho1)
  obtain ⟨l, L⟩ : ∃ l, Hid (l = symsL kind) := ⟨_, Lib.hid rfl⟩
  rw [← L.out] at r1 ⊢
  obtain ⟨n, hn⟩ : ∃ n, n = l.length := ⟨_, rfl⟩
  have hn8 : n ≤ 8 := by rw [hn, L.out]; exact symsUp_len _ _
  rw [← hn] at r1 ⊢
  have HN := Lib.hid hn
  clear hn
  go_loopw [7, 14] (fun v i wr => ∃ k : Nat, k ≤ n ∧ i = .int .i64 k ∧ v = .int .i64 (firstL l size cell k) ∧ Below w1.heap.size w1 wr) (fun _ i _ => n - (intOf i).toNat)
  case atStart => exact ⟨0, by omega, rfl, rfl, Below.refl _ _⟩
  case round =>
    obtain ⟨k, hk, rfl, rfl, hw⟩ := hrel
    by_cases hlt : k < n
    · obtain ⟨b, off, t, f, rfl, hbl, hx, h0, h1⟩ := (r1.below hw).sym hlt
      have F := Lib.hid (firstL_succ size cell hx)
      have hki : (k : Int) < (n : Int) := by omega
      have hk0 : (0 : Int) ≤ (k : Int) := by omega
      have hz := hw.size
      clear hx
      go_wp2_with (go_at_call 77; refine (cellTo_any _ _ _ _ _).mono ?_; rintro e w2 ⟨rfl, hb2⟩)
      go_roundw
      case rel => exact ⟨k + 1, by omega, by go_num, by rw [F.out], by (repeat (first | with_reducible assumption | exact Below.refl _ _ | (refine Below.setCell ?_ (by first | exact Nat.le_refl _ | (simp; done) | omega | (simp; omega)) _) | (refine below_drewN ?_ _) | (refine Below.drew ?_) | (refine Below.alloc ?_ (by first | exact Nat.le_refl _ | (simp; done) | omega | (simp; omega)) _) | (refine then_ ?_ (by with_reducible assumption)) | assumption | (refine then_ ?_ (by assumption))))⟩
      case measure => simp [intOf]; omega
    · obtain rfl : k = n := by omega
      go_wp2
      go_ret
      exact ⟨by unfold firstI; rw [← L.out, ← HN.out]; rfl, by (repeat (first | with_reducible assumption | exact Below.refl _ _ | (refine Below.setCell ?_ (by first | exact Nat.le_refl _ | (simp; done) | omega | (simp; omega)) _) | (refine below_drewN ?_ _) | (refine Below.drew ?_) | (refine Below.alloc ?_ (by first | exact Nat.le_refl _ | (simp; done) | omega | (simp; omega)) _) | (refine then_ ?_ (by with_reducible assumption)) | assumption | (refine then_ ?_ (by assumption))))⟩

set_option maxRecDepth 10000 in
set_option maxHeartbeats 2000000 in
theorem l4First_any (kind size cell : Int) (w : World) :
    Calls Try.prog 65 #[.int .i64 kind, .int .i64 size, .int .i64 cell] w fun e w' => e = .returned (.int .i64 (firstI kind size cell)) ∧ Below w.heap.size w w' := by
  go_enter Try.func65, Try.ntmps65
  go_wp2_with (go_at_call 89; refine (specSymsOf_any _ _).mono ?_; rintro e w1 ⟨A, c, rfl, ho1, hb1⟩; have r1 := Rd.of_own symC_len rfl ho1; clear ho1)
  obtain ⟨l, L⟩ : ∃ l, Hid (l = symsL kind) := ⟨_, Lib.hid rfl⟩
  rw [← L.out] at r1 ⊢
  obtain ⟨n, hn⟩ : ∃ n, n = l.length := ⟨_, rfl⟩
  have hn8 : n ≤ 8 := by rw [hn, L.out]; exact symsUp_len _ _
  rw [← hn] at r1 ⊢
  have HN := Lib.hid hn
  clear hn
  go_loopw [7, 14] (fun v i wr => ∃ k : Nat, k ≤ n ∧ i = .int .i64 k ∧ v = .int .i64 (firstL l size cell k) ∧ Below w1.heap.size w1 wr) (fun _ i _ => n - (intOf i).toNat)
  case atStart => exact ⟨0, by omega, rfl, rfl, Below.refl _ _⟩
  case round =>
    obtain ⟨k, hk, rfl, rfl, hw⟩ := hrel
    by_cases hlt : k < n
    · obtain ⟨b, off, t, f, rfl, hbl, hx, h0, h1⟩ := (r1.below hw).sym hlt
      have F := Lib.hid (firstL_succ size cell hx)
      have hki : (k : Int) < (n : Int) := by omega
      have hk0 : (0 : Int) ≤ (k : Int) := by omega
      have hz := hw.size
      clear hx
      go_wp2_with (go_at_call 75; refine (specCellTo_any _ _ _ _ _).mono ?_; rintro e w2 ⟨rfl, hb2⟩)
      go_roundw
      case rel => exact ⟨k + 1, by omega, by go_num, by rw [F.out], by (repeat (first | with_reducible assumption | exact Below.refl _ _ | (refine Below.setCell ?_ (by first | exact Nat.le_refl _ | (simp; done) | omega | (simp; omega)) _) | (refine below_drewN ?_ _) | (refine Below.drew ?_) | (refine Below.alloc ?_ (by first | exact Nat.le_refl _ | (simp; done) | omega | (simp; omega)) _) | (refine then_ ?_ (by with_reducible assumption)) | assumption | (refine then_ ?_ (by assumption))))⟩
      case measure => simp [intOf]; omega
    · obtain rfl : k = n := by omega
      go_wp2
      go_ret
      exact ⟨by unfold firstI; rw [← L.out, ← HN.out]; rfl, by (repeat (first | with_reducible assumption | exact Below.refl _ _ | (refine Below.setCell ?_ (by first | exact Nat.le_refl _ | (simp; done) | omega | (simp; omega)) _) | (refine below_drewN ?_ _) | (refine Below.drew ?_) | (refine Below.alloc ?_ (by first | exact Nat.le_refl _ | (simp; done) | omega | (simp; omega)) _) | (refine then_ ?_ (by with_reducible assumption)) | assumption | (refine then_ ?_ (by assumption))))⟩
end Go.Proofs.Ythlkpopmoodmgaa
