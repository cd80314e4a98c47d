
/- Marks on rows of symmetries of the call's own, and what is held; eqSymS. -/
import Derived.Test.YthlkpopmoodmgaaOwn
import Derived.Deep.RegionHeld3
namespace Go.Proofs.Ythlkpopmoodmgaa
open Go.RowKit

def marksS (k : Int) (n : Nat) : List (Int × Bool) := (List.range n).map (fun (j : Nat) => (k + 2 * (j : Int), (k + 2 * (j : Int) + 1) % 3 == 0))
theorem marksS_len (k : Int) (n : Nat) : (marksS k n).length = n := by simp [marksS]
theorem marksS_at {k : Int} {n j : Nat} (h : j < n) : (marksS k n)[j]? = some (k + 2 * (j : Int), (k + 2 * (j : Int) + 1) % 3 == 0) := by simp [marksS, h]
theorem mark_nextS (k : Int) (j : Nat) : Value.int .i64 (k + 2 * (j : Int) + 1 + 1) = Value.int .i64 (k + 2 * ((j + 1 : Nat) : Int)) := by
  congr 1; omega

set_option maxRecDepth 10000 in
set_option maxHeartbeats 4000000 in
theorem markSymS_any (A : Option Addr) (n c B : Nat) (k : Int) (ys0 : List Value) (w : World) (hn : n ≤ 1048576) (hk0 : 0 ≤ k) (hk1 : k ≤ 1048576) (ho : w.ownsRow B 52 2 (.slice A n c) n ys0) :
    Calls Try.prog 52 #[.slice A n c, .int .i64 k] w fun e w' => e = .returned (.int .i64 (k + 2 * (n : Int))) ∧ w'.ownsRow B 52 2 (.slice A n c) n (flat symC (marksS k n)) ∧ w.grownBy w' (Value.slice A n c).ownBlock := by
  have hl0 : ys0.length = (flat symC (marksS k n)).length := by rw [ho.1, flat_length symC_len, marksS_len]
  have H0 := Lib.hid hl0
  have HO := Lib.hid ho
  clear hl0 ho
  go_enter Try.func52, Try.ntmps52
  go_wp2
  go_loopw [1, 5] (fun kk i wr => ∃ (j : Nat) (ys : List Value), j ≤ n ∧ i = .int .i64 j ∧ kk = .int .i64 (k + 2 * (j : Int)) ∧ Pre j 2 ys (flat symC (marksS k n)) ∧ wr.ownsRow B 52 2 (.slice A n c) n ys ∧ w.grownBy wr (Value.slice A n c).ownBlock) (fun _ i _ => n - (intOf i).toNat)
  case atStart => exact ⟨0, ys0, Nat.zero_le _, rfl, by simp, Pre.zero H0.out, HO.out, World.grownBy.refl _ _⟩
  case round =>
    obtain ⟨j, ys, hj, rfl, rfl, hpre, hown, hg⟩ := hrel
    by_cases hlt : j < n
    · obtain ⟨g, rfl⟩ : ∃ g, A = some ⟨g, 0, none⟩ := by
        rcases hown.2 with ⟨_, h0⟩ | ⟨ga, _, _, h0, _⟩
        · omega
        · injection h0 with h1
          exact ⟨ga, h1⟩
      have e0 := flat_get symC_len (marksS k n) j _ (marksS_at hlt) 0 (.int .i64 (k + 2 * (j : Int))) rfl
      have e1 := flat_get symC_len (marksS k n) j _ (marksS_at hlt) 1 (.bool ((k + 2 * (j : Int) + 1) % 3 == 0)) rfl
      have P3 := Lib.hid (hpre.step2 e0 e1)
      obtain ⟨v0, hv0⟩ := owns_cell hown (j * 2) (by omega)
      obtain ⟨v1, hv1⟩ := owns_cell hown (j * 2 + 1) (by omega)
      have hfr := fun j => hown.frozenAt j
      have OW := Lib.hid hown
      clear hpre hown e0 e1
      have hki : (j : Int) < (n : Int) := by omega
      have hk0' : (0 : Int) ≤ (j : Int) := by omega
      have hkk : (0 : Int) ≤ k + 2 * (j : Int) + 1 := by omega
      go_wp2
      go_roundw
      case rel =>
        exact ⟨j + 1, _, by omega, by go_num, mark_nextS k j, P3.out, ((OW.out.stored (j * 2) _).1.stored (j * 2 + 1) _).1, grown_set (grown_set hg _ _) _ _⟩
      case measure => simp [intOf]; omega
    · obtain rfl : j = n := by omega
      have e : ys = flat symC (marksS k j) := hpre.done (by rw [flat_length symC_len, marksS_len]; omega)
      have OW := Lib.hid hown
      have EE := Lib.hid e
      clear hpre hown e
      go_wp2
      go_ret
      exact ⟨rfl, by rw [← EE.out]; exact OW.out, hg⟩

set_option maxRecDepth 10000 in
set_option maxHeartbeats 4000000 in
theorem heldSymS_any (A : Option Addr) (n c : Nat) (k : Int) (w : World) (hn : n ≤ 1048576) (hk0 : 0 ≤ k) (hk1 : k ≤ 1048576) (hr : Rd symC 2 w w.heap.size A n (marksS k n)) :
    Calls Try.prog 53 #[.slice A n c, .int .i64 k] w fun e w' => e = .returned (.int .i64 (k + 2 * (n : Int))) ∧ w = w' := by
  go_enter Try.func53, Try.ntmps53
  go_wp2
  go_loop [1, 5] (fun kk i => ∃ j : Nat, j ≤ n ∧ i = .int .i64 j ∧ kk = .int .i64 (k + 2 * (j : Int))) (fun _ i => n - (intOf i).toNat)
  case atStart => exact ⟨0, Nat.zero_le _, rfl, by simp⟩
  case round =>
    obtain ⟨j, hj, rfl, rfl⟩ := hrel
    by_cases hlt : j < n
    · obtain ⟨b, off, t, f, rfl, hb, hx, h0, h1⟩ := hr.sym hlt
      rw [marksS_at hlt] at hx
      injection hx with hx
      obtain ⟨rfl, rfl⟩ : k + 2 * (j : Int) = t ∧ ((k + 2 * (j : Int) + 1) % 3 == 0) = f := by simpa using hx
      clear hx
      have hki : (j : Int) < (n : Int) := by omega
      have hk0' : (0 : Int) ≤ (j : Int) := by omega
      have hkk : (0 : Int) ≤ k + 2 * (j : Int) + 1 := by omega
      go_wp2
      go_round
      case rel => exact ⟨j + 1, by omega, by go_num, mark_nextS k j⟩
      case measure => simp [intOf]; omega
    · obtain rfl : j = n := by omega
      go_wp2
      go_ret
      exact ⟨rfl, rfl⟩

set_option maxRecDepth 10000 in
set_option maxHeartbeats 1000000 in
theorem eqSymS_any (A B : Option Addr) (n c d : Nat) (xs : List (Int × Bool)) (w : World) (hn : n ≤ maxLen) (ha : Rd symC 2 w w.heap.size A n xs) (hb : Rd symC 2 w w.heap.size B n xs) :
    Calls Try.prog 51 #[.slice A n c, .slice B n d] w fun e w' => e = .returned (.bool true) ∧ Below w.heap.size w w' := by
  unfold maxLen at hn
  go_enter Try.func51, Try.ntmps51
  go_wp2
  go_loopw [5] (fun i wr => ∃ k : Nat, k ≤ n ∧ i = .int .i64 k ∧ Below w.heap.size w wr) (fun i _ => n - (intOf i).toNat)
  case atStart => exact ⟨0, Nat.zero_le _, rfl, Below.refl _ _⟩
  case round =>
    obtain ⟨k, hk, rfl, hw⟩ := hrel
    by_cases hlt : k < n
    · obtain ⟨b, off, t, f, rfl, _, hx, h0, h1⟩ := (ha.below hw).sym hlt
      obtain ⟨b', off', t', f', rfl, _, hx', h0', h1'⟩ := (hb.below hw).sym hlt
      obtain ⟨rfl, rfl⟩ : t = t' ∧ f = f' := by rw [hx] at hx'; simpa using hx'
      clear hx hx'
      have hki : (k : Int) < (n : Int) := by omega
      have hk0 : (0 : Int) ≤ (k : Int) := by omega
      have lb : b < wr.heap.size := by have := hw.size; omega
      have lb' : b' < wr.heap.size := by have := hw.size; omega
      go_wp2
      go_region_held3 (fun w' => (∀ b o, b < wr.heap.size → w'.cell? ⟨b, o, none⟩ = wr.cell? ⟨b, o, none⟩) ∧ Below wr.heap.size wr w') (first | assumption | exact startS _ | exact stepS (by assumption) (by assumption)) (first | (go_at_call 91; refine (eqSym_any _ _ _).mono ?_; rintro e w' ⟨rfl, hb2⟩))
      have hS := ‹_ ∧ Below wr.heap.size wr w'›
      have hB := then_ hw hS.2
      go_wp2
      go_roundw
      case rel => exact ⟨k + 1, by omega, by go_num, hB⟩
      case measure => simp [intOf]; omega
    · obtain rfl : k = n := by omega
      go_wp2
      go_ret
      exact ⟨rfl, hw⟩
end Go.Proofs.Ythlkpopmoodmgaa
