
/- Marks on rows of strings of the call's own, and what is held; eqStringS. -/
import Derived.Test.YthlkpopmoodmgaaFmtP
namespace Go.Proofs.Ythlkpopmoodmgaa
open Go.RowKit
attribute [local go_sem] run_store_float run_store_complex

/-- the decimal digits of n ahead of some text -/
def mt (n : Nat) (acc : List UInt8) : List UInt8 := if h : n = 0 then acc else mt (n / 10) (UInt8.ofNat (48 + n % 10) :: acc)
termination_by n
decreasing_by omega
theorem mt_zero (acc : List UInt8) : mt 0 acc = acc := by rw [mt]; simp
theorem mt_pos {n : Nat} (h : 0 < n) (acc : List UInt8) : mt n acc = mt (n / 10) (UInt8.ofNat (48 + n % 10) :: acc) := by
  conv => lhs; rw [mt]
  rw [dif_neg (by omega)]
def mtext (n : Nat) : List UInt8 := 109 :: mt n []

set_option maxRecDepth 100000 in
set_option maxHeartbeats 2000000 in
theorem markText_any (k : Nat) (w : World) (h0 : 0 < k) (h1 : k ≤ 2097152) :
    Calls Try.prog 73 #[.int .i64 (k : Int)] w fun e w' => e = .returned (.string ⟨(mtext k).toArray⟩) ∧ Below w.heap.size w w' := by
  have hk : ¬ (k : Int) ≤ 0 := by omega
  go_enter Try.func73, Try.ntmps73
  go_wp2
  go_loopw [0, 3] (fun kk s wr => ∃ (n : Nat) (acc : List UInt8), n + acc.length ≤ k ∧ kk = .int .i64 n ∧ s = .string ⟨acc.toArray⟩ ∧ mt n acc = mt k [] ∧ Below w.heap.size w wr) (fun kk _ _ => (intOf kk).toNat)
  case atStart => exact ⟨k, [], by simp, rfl, rfl, rfl, Below.refl _ _⟩
  case round =>
    obtain ⟨n, acc, hb, rfl, rfl, hm, hw⟩ := hrel
    have HM := Lib.hid hm
    clear hm
    by_cases hn : 0 < n
    · have hn' : (0 : Int) < (n : Int) := by omega
      have hp := Lib.hid (mt_pos hn acc)
      obtain ⟨d, hd⟩ : ∃ d, d = n % 10 := ⟨_, rfl⟩
      have hdi : (n : Int) % 10 = (d : Int) := by omega
      have hd10 : d < 10 := by omega
      obtain ⟨u, hu⟩ : ∃ u : UInt8, u = UInt8.ofNat (48 + d) := ⟨_, rfl⟩
      have hun : u.toNat = 48 + d := by rw [hu, UInt8.toNat_ofNat']; omega
      have hw8 : IntKind.u8.wrap (48 + (d : Int)) = (u.toNat : Int) := by
        rw [hun]
        have : ∀ d : Nat, d < 10 → IntKind.u8.wrap (48 + (d : Int)) = ((48 + d : Nat) : Int) := by decide
        exact this d hd10
      have hw64 : IntKind.i64.wrap (48 + (d : Int)) = 48 + (d : Int) := by rw [IntKind.wrap_i64]; omega
      have hcv := run_convert_bytes_back (P := Try.prog) (wr.alloc (Obj.cells #[.int .u8 (u.toNat : Int)] 5)) 58 9 5 ⟨wr.heap.size, 0, none⟩ 1 [u] Try.underlying58 Try.underlying5 Try.underlying9 (fun j hj => by
        have hj0 : j = 0 := by simp at hj; omega
        subst hj0
        simp [go_sem, Addr.add])
      have ha : ∀ wx, (Op.stringOp .add ⟨#[u]⟩ ⟨acc.toArray⟩).run Try.prog wx = .ok (.string ⟨(u :: acc).toArray⟩) wx := fun wx => strAdd (P := Try.prog) [u] acc (by simp) (by omega) wx
      have HU := Lib.hid (show mt (n / 10) (u :: acc) = mt n acc by rw [hp.out, hu, hd])
      have hcv' : (convert 58 9 (.slice (some ⟨wr.heap.size, 0, none⟩) 1 1)).run Try.prog (wr.alloc (Obj.cells #[.int .u8 (u.toNat : Int)] 5)) = .ok (.string ⟨#[u]⟩) (wr.alloc (Obj.cells #[.int .u8 (u.toNat : Int)] 5)) := hcv
      clear hd hun hu hcv hp
      go_wp2
      go_roundw
      case rel => exact ⟨n / 10, u :: acc, by simp; omega, by simp, rfl, HU.out.trans HM.out, hw.alloc hw.size _⟩
      case measure => simp [intOf]; omega
    · obtain rfl : n = 0 := by omega
      have e := HM.out
      rw [mt_zero] at e
      have ha : ∀ wx, (Op.stringOp .add ⟨#[109]⟩ ⟨acc.toArray⟩).run Try.prog wx = .ok (.string ⟨(109 :: acc).toArray⟩) wx := fun wx => strAdd (P := Try.prog) [109] acc (by simp) (by omega) wx
      have E := Lib.hid (show mtext k = 109 :: acc by unfold mtext; rw [← e])
      clear e HM
      go_wp2
      go_ret
      exact ⟨by rw [E.out]; rfl, hw⟩

def marksT (k n : Nat) : List (List UInt8) := (List.range n).map (fun (j : Nat) => mtext (k + j))
theorem marksT_len (k n : Nat) : (marksT k n).length = n := by simp [marksT]
theorem marksT_at {k n j : Nat} (h : j < n) : (marksT k n)[j]? = some (mtext (k + j)) := by simp [marksT, h]

set_option maxRecDepth 10000 in
set_option maxHeartbeats 2000000 in
theorem markStringS_any (A : Option Addr) (n c B : Nat) (k : Nat) (ys0 : List Value) (w : World) (hn : n ≤ 1048576) (hk0 : 0 < k) (hk1 : k ≤ 1048576) (ho : w.ownsRow B 9 1 (.slice A n c) n ys0) :
    Calls Try.prog 31 #[.slice A n c, .int .i64 (k : Int)] w fun e w' => e = .returned (.int .i64 ((k : Int) + n)) ∧ w'.ownsRow B 9 1 (.slice A n c) n (flat bsC (marksT k n)) ∧ w.grownBy w' (Value.slice A n c).ownBlock := by
  have hl0 : ys0.length = (flat bsC (marksT k n)).length := by rw [ho.1, flat_length bsC_len, marksT_len]
  have H0 := Lib.hid hl0
  have HO := Lib.hid ho
  clear hl0
  go_enter Try.func31, Try.ntmps31
  go_wp2
  go_loopw [1, 5] (fun kk i wr => ∃ (j : Nat) (ys : List Value), j ≤ n ∧ i = .int .i64 j ∧ kk = .int .i64 ((k : Int) + j) ∧ Pre j 1 ys (flat bsC (marksT k n)) ∧ wr.ownsRow B 9 1 (.slice A n c) n ys ∧ w.grownBy wr (Value.slice A n c).ownBlock) (fun _ i _ => n - (intOf i).toNat)
  case atStart => exact ⟨0, ys0, Nat.zero_le _, rfl, by simp, Pre.zero H0.out, HO.out, World.grownBy.refl _ _⟩
  case round =>
    obtain ⟨j, ys, hj, rfl, rfl, hpre, hown, hg⟩ := hrel
    by_cases hlt : j < n
    · obtain ⟨g, rfl⟩ : ∃ g, A = some ⟨g, 0, none⟩ := by
        rcases hown.2 with ⟨_, h0⟩ | ⟨ga, _, _, h0, _⟩
        · omega
        · injection h0 with h1
          exact ⟨ga, h1⟩
      obtain ⟨K, hK⟩ : ∃ K, K = k + j := ⟨_, rfl⟩
      have hKi : (k : Int) + (j : Int) = (K : Int) := by omega
      have e0 := flat_get bsC_len (marksT k n) j _ (marksT_at hlt) 0 (.string ⟨(mtext (k + j)).toArray⟩) rfl
      rw [Nat.mul_one, Nat.add_zero, ← hK] at e0
      have P1 := Lib.hid (hpre.step1 e0)
      have OW := Lib.hid hown
      have lg := (hown.lt g rfl).2
      have hki : (j : Int) < (n : Int) := by omega
      have hj0 : (0 : Int) ≤ (j : Int) := by omega
      have HK := Lib.hid hK
      have hK1 : 0 < K := by omega
      have hK2 : K ≤ 2097152 := by omega
      clear hpre hown e0 hK
      rw [hKi]
      go_wp2_with fail
      refine (markText_any K _ hK1 hK2).mono ?_
      rintro e w5 ⟨rfl, hb5⟩
      have OW5 := Lib.hid (owns_below OW.out hb5)
      obtain ⟨v0, hv0⟩ := owns_cell OW5.out j (by omega)
      have hfr := OW5.out.frozenAt j
      have hg5 := grown_trans hg (grown_of_below hb5 (Value.slice (some ⟨g, 0, none⟩) n c).ownBlock)
      clear hb5
      go_wp2
      go_roundw
      case rel =>
        refine ⟨j + 1, _, by omega, by go_num, ?_, P1.out, (OW5.out.stored j _).1, grown_set hg5 _ _⟩
        have := HK.out
        congr 1; omega
      case measure => simp [intOf]; omega
    · obtain rfl : j = n := by omega
      have e : ys = flat bsC (marksT k j) := hpre.done (by rw [flat_length bsC_len, marksT_len]; omega)
      have OW := Lib.hid hown
      have EE := Lib.hid e
      clear hpre hown e
      go_wp2
      go_ret
      exact ⟨rfl, by rw [← EE.out]; exact OW.out, hg⟩

theorem Rd.str {w : World} {B : Nat} {A : Option Addr} {n k : Nat} {xs : List (List UInt8)} (h : Rd bsC 1 w B A n xs) (hk : k < n) :
    ∃ b off x, A = some ⟨b, off, none⟩ ∧ b < B ∧ xs[k]? = some x ∧ w.cell? ⟨b, off + k, none⟩ = some (.string ⟨x.toArray⟩) := by
  obtain ⟨b, off, x, e, hb, hx, hc⟩ := h.at_ hk
  have := hc 0 _ rfl
  rw [Nat.mul_one, Nat.add_zero] at this
  exact ⟨b, off, x, e, hb, hx, this⟩

set_option maxRecDepth 10000 in
set_option maxHeartbeats 2000000 in
theorem heldStringS_any (A : Option Addr) (n c : Nat) (k : Nat) (w : World) (hn : n ≤ 1048576) (hk0 : 0 < k) (hk1 : k ≤ 1048576) (hr : Rd bsC 1 w w.heap.size A n (marksT k n)) :
    Calls Try.prog 32 #[.slice A n c, .int .i64 (k : Int)] w fun e w' => e = .returned (.int .i64 ((k : Int) + n)) ∧ Below w.heap.size w w' := by
  go_enter Try.func32, Try.ntmps32
  go_wp2
  go_loopw [1, 5] (fun kk i wr => ∃ j : Nat, j ≤ n ∧ i = .int .i64 j ∧ kk = .int .i64 ((k : Int) + j) ∧ Below w.heap.size w wr) (fun _ i _ => n - (intOf i).toNat)
  case atStart => exact ⟨0, Nat.zero_le _, rfl, by simp, Below.refl _ _⟩
  case round =>
    obtain ⟨j, hj, rfl, rfl, hw⟩ := hrel
    by_cases hlt : j < n
    · obtain ⟨b, off, x, rfl, hb, hx, hc⟩ := (hr.below hw).str hlt
      rw [marksT_at hlt] at hx
      injection hx with hx
      subst hx
      obtain ⟨K, hK⟩ : ∃ K, K = k + j := ⟨_, rfl⟩
      have hKi : (k : Int) + (j : Int) = (K : Int) := by omega
      rw [← hK] at hc
      obtain ⟨T, hT⟩ : ∃ T, T = mtext K := ⟨_, rfl⟩
      rw [← hT] at hc
      have hki : (j : Int) < (n : Int) := by omega
      have hk0 : (0 : Int) ≤ (j : Int) := by omega
      have lb := World.block_lt_of_cell? _ _ hc
      dsimp only at lb
      have mk := fun w => markText_any K w (by omega) (by omega)
      rw [← hT] at mk
      have MK := Lib.hid mk
      have HK := Lib.hid hK
      clear mk hT hK
      rw [hKi]
      go_wp2_with fail
      go_region_held3 (fun w' => (∀ b o, b < wr.heap.size → w'.cell? ⟨b, o, none⟩ = wr.cell? ⟨b, o, none⟩) ∧ Below wr.heap.size wr w') (first | assumption | exact startS _ | exact stepS (by assumption) (by assumption)) (first | (go_at_call 73; refine (MK.out _).mono ?_; rintro e w5 ⟨rfl, hb5⟩))
      have hS := ‹_ ∧ Below wr.heap.size wr w5›
      have hB := then_ hw hS.2
      go_wp2
      go_roundw
      case rel => exact ⟨j + 1, by omega, by go_num, by congr 1; have := HK.out; omega, hB⟩
      case measure => simp [intOf]; omega
    · obtain rfl : j = n := by omega
      go_wp2
      go_ret
      exact ⟨rfl, hw⟩

set_option maxRecDepth 10000 in
set_option maxHeartbeats 1000000 in
theorem eqStringS_any (A B : Option Addr) (n c d : Nat) (xs : List (List UInt8)) (w : World) (hn : n ≤ maxLen) (ha : Rd bsC 1 w w.heap.size A n xs) (hb : Rd bsC 1 w w.heap.size B n xs) :
    Calls Try.prog 29 #[.slice A n c, .slice B n d] w fun e w' => e = .returned (.bool true) ∧ Below w.heap.size w w' := by
  unfold maxLen at hn
  go_enter Try.func29, Try.ntmps29
  go_wp2
  go_loopw [5] (fun i wr => ∃ k : Nat, k ≤ n ∧ i = .int .i64 k ∧ Below w.heap.size w wr) (fun i _ => n - (intOf i).toNat)
  case atStart => exact ⟨0, Nat.zero_le _, rfl, Below.refl _ _⟩
  case round =>
    obtain ⟨k, hk, rfl, hw⟩ := hrel
    by_cases hlt : k < n
    · obtain ⟨b, off, x, rfl, _, hx, h0⟩ := (ha.below hw).str hlt
      obtain ⟨b', off', x', rfl, _, hx', h0'⟩ := (hb.below hw).str hlt
      obtain rfl : x = x' := by rw [hx] at hx'; simpa using hx'
      clear hx hx'
      have hki : (k : Int) < (n : Int) := by omega
      have hk0 : (0 : Int) ≤ (k : Int) := by omega
      go_wp2
      go_quiet (fail)
      go_wp2
      go_roundw
      case rel => exact ⟨k + 1, by omega, by go_num, by (repeat (first | with_reducible assumption | exact Below.refl _ _ | (refine Below.setCell ?_ (by first | exact Nat.le_refl _ | (simp; done) | omega | (simp; omega)) _) | (refine below_drewN ?_ _) | (refine Below.drew ?_) | (refine Below.alloc ?_ (by first | exact Nat.le_refl _ | (simp; done) | omega | (simp; omega)) _) | (refine then_ ?_ (by with_reducible assumption)) | assumption | (refine then_ ?_ (by assumption))))⟩
      case measure => simp [intOf]; omega
    · obtain rfl : k = n := by omega
      go_wp2
      go_ret
      exact ⟨rfl, hw⟩
end Go.Proofs.Ythlkpopmoodmgaa
