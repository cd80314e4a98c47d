
/- Marks on rows of colours of the call's own, and what is held. -/
import Derived.Test.YthlkpopmoodmgaaOwn
import Derived.Test.YthlkpopmoodmgaaFlt
import Derived.Test.YthlkpopmoodmgaaEq2
import Derived.Test.YthlkpopmoodmgaaGeoI
namespace Go.Proofs.Ythlkpopmoodmgaa
open Go.RowKit
attribute [local go_sem] run_store_float run_store_complex

theorem nearest_rung (s : Bool) (m : Nat) (p : Int) : Ieee.single.nearest s m p % 2147483648 ≤ 2139095040 := by
  have hw : ∀ r, r ≤ 2139095040 → Ieee.single.word s r % 2147483648 ≤ 2139095040 := by
    intro r hr
    unfold Ieee.Format.word
    rw [c_sw]
    split <;> omega
  unfold Ieee.Format.nearest
  split
  · exact hw 0 (by omega)
  · exact hw _ (Nat.le_trans (Nat.min_le_right _ _) (by decide))
theorem fl_nan (n : Int) : nanB (fl n) = false := by
  have : fl n = Ieee.single.nearest (n < 0) n.natAbs 0 := rfl
  rw [this]
  unfold nanB
  have h := nearest_rung (n < 0) n.natAbs 0
  simp only [decide_eq_false_iff_not]
  omega
theorem ord_same {x : Nat} (h : nanB x = false) : ordB x x = some .eq := by
  unfold ordB
  refine order_self ?_
  rcases three x with h1 | h1 | h1
  · obtain ⟨m, p, e, _⟩ := read_fin h1
    rw [e]; rfl
  · rw [read_inf h1]; rfl
  · rw [h1] at h; cases h
theorem ord_fl (n : Int) : (FloatKind.f32.format.order (fl n) (fl n) != some .eq) = false := by
  have : FloatKind.f32.format.order (fl n) (fl n) = some .eq := ord_same (fl_nan n)
  rw [this]; rfl

def marksC (k : Int) (n : Nat) : List Col := (List.range n).map (fun (j : Nat) => (fl (k + 3 * (j : Int)), fl (k + 3 * (j : Int) + 1), fl (k + 3 * (j : Int) + 1 + 1)))
theorem marksC_len (k : Int) (n : Nat) : (marksC k n).length = n := by simp [marksC]
theorem marksC_at {k : Int} {n j : Nat} (h : j < n) : (marksC k n)[j]? = some (fl (k + 3 * (j : Int)), fl (k + 3 * (j : Int) + 1), fl (k + 3 * (j : Int) + 1 + 1)) := by simp [marksC, h]

theorem mark_next (k : Int) (j : Nat) : Value.int .i64 (k + 3 * (j : Int) + 1 + 1 + 1) = Value.int .i64 (k + 3 * ((j + 1 : Nat) : Int)) := by
  congr 1; omega

set_option maxRecDepth 10000 in
set_option maxHeartbeats 4000000 in
theorem markColourS_any (A : Option Addr) (n c B : Nat) (k : Int) (ys0 : List Value) (w : World) (hn : n ≤ 1048576) (hk0 : 0 ≤ k) (hk1 : k ≤ 1048576) (ho : w.ownsRow B 78 3 (.slice A n c) n ys0) :
    Calls Try.prog 72 #[.slice A n c, .int .i64 k] w fun e w' => e = .returned (.int .i64 (k + 3 * (n : Int))) ∧ w'.ownsRow B 78 3 (.slice A n c) n (flat colC (marksC k n)) ∧ w.grownBy w' (Value.slice A n c).ownBlock := by
  have hl0 : ys0.length = (flat colC (marksC k n)).length := by rw [ho.1, flat_length colC_len, marksC_len]
  have H0 := Lib.hid hl0
  have HO := Lib.hid ho
  clear hl0 ho
  go_enter Try.func72, Try.ntmps72
  go_wp2
  go_loopw [1, 5] (fun kk i wr => ∃ (j : Nat) (ys : List Value), j ≤ n ∧ i = .int .i64 j ∧ kk = .int .i64 (k + 3 * (j : Int)) ∧ Pre j 3 ys (flat colC (marksC k n)) ∧ wr.ownsRow B 78 3 (.slice A n c) n ys ∧ w.grownBy wr (Value.slice A n c).ownBlock) (fun _ i _ => n - (intOf i).toNat)
  case atStart => exact ⟨0, ys0, Nat.zero_le _, rfl, by simp, Pre.zero H0.out, HO.out, World.grownBy.refl _ _⟩
  case round =>
    obtain ⟨j, ys, hj, rfl, rfl, hpre, hown, hg⟩ := hrel
    by_cases hlt : j < n
    · obtain ⟨g, rfl⟩ : ∃ g, A = some ⟨g, 0, none⟩ := by
        rcases hown.2 with ⟨_, h0⟩ | ⟨ga, _, _, h0, _⟩
        · omega
        · injection h0 with h1
          exact ⟨ga, h1⟩
      have e0 := flat_get colC_len (marksC k n) j _ (marksC_at hlt) 0 (.float .f32 (fl (k + 3 * (j : Int)))) rfl
      have e1 := flat_get colC_len (marksC k n) j _ (marksC_at hlt) 1 (.float .f32 (fl (k + 3 * (j : Int) + 1))) rfl
      have e2 := flat_get colC_len (marksC k n) j _ (marksC_at hlt) 2 (.float .f32 (fl (k + 3 * (j : Int) + 1 + 1))) rfl
      have P3 := Lib.hid (hpre.step3 e0 e1 e2)
      obtain ⟨v0, hv0⟩ := owns_cell hown (j * 3) (by omega)
      obtain ⟨v1, hv1⟩ := owns_cell hown (j * 3 + 1) (by omega)
      obtain ⟨v2, hv2⟩ := owns_cell hown (j * 3 + 2) (by omega)
      have hfr := fun j => hown.frozenAt j
      have OW := Lib.hid hown
      clear hpre hown e0 e1 e2
      have hki : (j : Int) < (n : Int) := by omega
      have hk0' : (0 : Int) ≤ (j : Int) := by omega
      go_wp2
      go_roundw
      case rel =>
        exact ⟨j + 1, _, by omega, by go_num, mark_next k j, P3.out, (((OW.out.stored (j * 3) _).1.stored (j * 3 + 1) _).1.stored (j * 3 + 2) _).1, grown_set (grown_set (grown_set hg _ _) _ _) _ _⟩
      case measure => simp [intOf]; omega
    · obtain rfl : j = n := by omega
      have e : ys = flat colC (marksC k j) := hpre.done (by rw [flat_length colC_len, marksC_len]; omega)
      have OW := Lib.hid hown
      have EE := Lib.hid e
      clear hpre hown e
      go_wp2
      go_ret
      exact ⟨rfl, by rw [← EE.out]; exact OW.out, hg⟩

theorem markPicture_any (s : Int) (A : Option Addr) (n c B : Nat) (k : Int) (ys0 : List Value) (w : World) (hn : n ≤ 1048576) (hk0 : 0 ≤ k) (hk1 : k ≤ 1048576) (ho : w.ownsRow B 78 3 (.slice A n c) n ys0) :
    Calls Try.prog 30 #[.agg #[.int .i64 s, .slice A n c], .int .i64 k] w fun e w' => e = .returned (.int .i64 (k + 3 * (n : Int))) ∧ w'.ownsRow B 78 3 (.slice A n c) n (flat colC (marksC k n)) ∧ w.grownBy w' (Value.slice A n c).ownBlock := by
  have HO := Lib.hid (ho.alloc (.cells #[.int .i64 s, .slice A n c] 29))
  have GA := Lib.hid (World.grownBy_alloc w (.cells #[.int .i64 s, .slice A n c] 29) (Value.slice A n c).ownBlock)
  clear ho
  go_enter Try.func30, Try.ntmps30
  go_wp2_with (go_at_call 72; refine (markColourS_any _ _ _ _ _ _ _ hn hk0 hk1 HO.out).mono ?_; rintro e w1 ⟨rfl, h1, h2⟩; have H1 := Lib.hid h1; have H2 := Lib.hid h2; clear h1 h2)
  go_ret
  exact ⟨rfl, H1.out, grown_trans GA.out H2.out⟩

set_option maxRecDepth 10000 in
set_option maxHeartbeats 4000000 in
theorem heldColourS_any (A : Option Addr) (n c : Nat) (k : Int) (w : World) (hn : n ≤ 1048576) (hk0 : 0 ≤ k) (hk1 : k ≤ 1048576) (hr : Rd colC 3 w w.heap.size A n (marksC k n)) :
    Calls Try.prog 78 #[.slice A n c, .int .i64 k] w fun e w' => e = .returned (.int .i64 (k + 3 * (n : Int))) ∧ w = w' := by
  go_enter Try.func78, Try.ntmps78
  go_wp2
  go_loop [1, 5] (fun kk i => ∃ j : Nat, j ≤ n ∧ i = .int .i64 j ∧ kk = .int .i64 (k + 3 * (j : Int))) (fun _ i => n - (intOf i).toNat)
  case atStart => exact ⟨0, Nat.zero_le _, rfl, by simp⟩
  case round =>
    obtain ⟨j, hj, rfl, rfl⟩ := hrel
    by_cases hlt : j < n
    · obtain ⟨b, off, r, g, l, rfl, hb, hx, h0, h1, h2⟩ := hr.col hlt
      rw [marksC_at hlt] at hx
      injection hx with hx
      obtain ⟨rfl, rfl, rfl⟩ : fl (k + 3 * (j : Int)) = r ∧ fl (k + 3 * (j : Int) + 1) = g ∧ fl (k + 3 * (j : Int) + 1 + 1) = l := by simpa using hx
      have o0 := ord_fl (k + 3 * (j : Int))
      have o1 := ord_fl (k + 3 * (j : Int) + 1)
      have o2 := ord_fl (k + 3 * (j : Int) + 1 + 1)
      unfold fl at o0 o1 o2 h0 h1 h2
      clear hx
      have hki : (j : Int) < (n : Int) := by omega
      have hk0' : (0 : Int) ≤ (j : Int) := by omega
      go_wp2
      go_round
      case rel => exact ⟨j + 1, by omega, by go_num, mark_next k j⟩
      case measure => simp [intOf]; omega
    · obtain rfl : j = n := by omega
      go_wp2
      go_ret
      exact ⟨rfl, rfl⟩

theorem heldPicture_any (s : Int) (A : Option Addr) (n c : Nat) (k : Int) (w : World) (hn : n ≤ 1048576) (hk0 : 0 ≤ k) (hk1 : k ≤ 1048576) (hr : Rd colC 3 w w.heap.size A n (marksC k n)) :
    Calls Try.prog 36 #[.agg #[.int .i64 s, .slice A n c], .int .i64 k] w fun e w' => e = .returned (.int .i64 (k + 3 * (n : Int))) ∧ Below w.heap.size w w' := by
  go_enter Try.func36, Try.ntmps36
  go_wp2_with (go_at_call 78; refine (heldColourS_any _ _ _ _ _ hn hk0 hk1 (hr.step ?_)).mono ?_; (repeat (first | with_reducible assumption | exact Below.refl _ _ | (refine Below.setCell ?_ (by first | exact Nat.le_refl _ | (simp; done) | omega | (simp; omega)) _) | (refine below_drewN ?_ _) | (refine Below.drew ?_) | (refine Below.alloc ?_ (by first | exact Nat.le_refl _ | (simp; done) | omega | (simp; omega)) _) | (refine then_ ?_ (by with_reducible assumption)) | assumption | (refine then_ ?_ (by assumption)))); rintro e w1 ⟨rfl, rfl⟩)
  go_ret
  exact ⟨rfl, by (repeat (first | with_reducible assumption | exact Below.refl _ _ | (refine Below.setCell ?_ (by first | exact Nat.le_refl _ | (simp; done) | omega | (simp; omega)) _) | (refine below_drewN ?_ _) | (refine Below.drew ?_) | (refine Below.alloc ?_ (by first | exact Nat.le_refl _ | (simp; done) | omega | (simp; omega)) _) | (refine then_ ?_ (by with_reducible assumption)) | assumption | (refine then_ ?_ (by assumption))))⟩
end Go.Proofs.Ythlkpopmoodmgaa
