
/- The draws' source: a cursor over bytes. -/
import Derived.Test.YtchkcleenmoajaaMem
namespace Go.Proofs.Ytchkcleenmoajaa
open Go.RowKit

/-- the cursor's block -/
def Cur (w : World) (g : Nat) (A : Option Addr) (m c : Nat) : Prop := ∃ i h : Int, 0 ≤ i ∧ w.heap[g]? = some (.cells #[.slice A m c, .int .i64 i, .int .i64 h] 82 (0, 0))

theorem i64_and255 (n : Int) : bits .and .i64 n 255 = n % 256 := by
  have h255 : (BitVec.ofInt 64 255).toNat = 2 ^ 8 - 1 := by decide
  have key : (BitVec.ofInt 64 n &&& BitVec.ofInt 64 255).toNat = (n % ((2 ^ 64 : Nat) : Int)).toNat % 2 ^ 8 := by
    rw [BitVec.toNat_and, BitVec.toNat_ofInt, h255, Nat.and_two_pow_sub_one_eq_mod]
  show IntKind.i64.wrap ((BitVec.ofInt 64 n &&& BitVec.ofInt 64 255).toNat : Nat) = n % 256
  rw [key, IntKind.wrap_i64]
  omega
theorem and255_bd (n : Int) : 0 ≤ bits .and .i64 n 255 ∧ bits .and .i64 n 255 ≤ 255 := by rw [i64_and255]; omega

theorem cur_set {w : World} {g : Nat} {A : Option Addr} {m c : Nat} {i h : Int} (hg : w.heap[g]? = some (.cells #[.slice A m c, .int .i64 i, .int .i64 h] 82 (0, 0))) (h' : Int) :
    (w.setCell ⟨g, 2, none⟩ (.int .i64 h')).heap[g]? = some (.cells #[.slice A m c, .int .i64 i, .int .i64 h'] 82 (0, 0)) := by
  rw [heap_setCell_same w g 2 _ _ _ hg]; rfl
theorem cur_set1 {w : World} {g : Nat} {A : Option Addr} {m c : Nat} {i h : Int} (hg : w.heap[g]? = some (.cells #[.slice A m c, .int .i64 i, .int .i64 h] 82 (0, 0))) (i' : Int) :
    (w.setCell ⟨g, 1, none⟩ (.int .i64 i')).heap[g]? = some (.cells #[.slice A m c, .int .i64 i', .int .i64 h] 82 (0, 0)) := by
  rw [heap_setCell_same w g 1 _ _ _ hg]; rfl

theorem grown_drewN {a w : World} {row : Option Nat} (h : a.grownBy w row) (n : Nat) : a.grownBy (w.drewN n) row := ⟨h.os, h.tape, h.output, h.size, h.block⟩
theorem grown_set {a w : World} {g : Nat} (h : a.grownBy w (some g)) (o : Nat) (u : Value) : a.grownBy (w.setCell ⟨g, o, none⟩ u) (some g) :=
  ⟨h.os, h.tape, h.output, by simpa [World.setCell] using h.size, fun i hi hne => (Below.heap_setCell w ⟨g, o, none⟩ u i (fun e => hne (by rw [e]))).trans (h.block i hi hne)⟩
theorem grown_trans {a b c : World} {row : Option Nat} (h : a.grownBy b row) (k : b.grownBy c row) : a.grownBy c row :=
  ⟨k.os.trans h.os, k.tape.trans h.tape, k.output.trans h.output, Nat.le_trans h.size k.size, fun i hi hne => (k.block i (Nat.lt_of_lt_of_le hi h.size) hne).trans (h.block i hi hne)⟩

set_option maxHeartbeats 1000000 in
theorem l1Byte_any (g : Nat) (A : Option Addr) (m c : Nat) (bs : List Int) (w : World) (hm : m ≤ maxLen) (hc : Cur w g A m c) (hr : Rd byteC 1 w g A m bs) (hb : ∀ x ∈ bs, 0 ≤ x ∧ x ≤ 255) :
    Calls Try.prog 46 #[.pointer (some ⟨g, 0, none⟩)] w fun e w' => ∃ x : Int, 0 ≤ x ∧ x ≤ 255 ∧ e = .returned (.int .i64 x) ∧ Cur w' g A m c ∧ w.grownBy w' (some g) := by
  unfold maxLen at hm
  obtain ⟨i, h, hi, hg⟩ := hc
  have c0 := cell_of_row w g 0 _ _ _ hg
  have c1 := cell_of_row w g 1 _ _ _ hg
  have c2 := cell_of_row w g 2 _ _ _ hg
  have f1 := frozen_of_row w g 1 _ _ hg
  have f2 := frozen_of_row w g 2 _ _ hg
  simp at c0 c1 c2
  by_cases hlt : i < m
  · obtain ⟨i, rfl⟩ := Int.eq_ofNat_of_zero_le hi
    obtain ⟨b, off, x, rfl, hbg, hx, hcx⟩ := hr.at_ (k := i) (by omega)
    have hc0 := hcx 0 _ rfl
    have hne : g ≠ b := by omega
    obtain ⟨x0, x1⟩ := hb x (List.mem_of_getElem? hx)
    simp only [Nat.mul_one, Nat.add_zero] at hc0
    clear hcx hx
    go_enter Try.func46, Try.ntmps46
    go_wp2
    go_quiet (fail)
    go_wp2
    go_quiet (fail)
    go_wp2
    go_quiet (fail)
    go_wp2
    go_ret
    exact ⟨_, (and255_bd _).1, (and255_bd _).2, rfl, ⟨_, _, by omega, cur_set1 (cur_set hg _) _⟩, by (repeat (first | exact World.grownBy.refl _ _ | assumption | refine grown_drewN ?_ _ | refine grown_set ?_ _ _))⟩
  · have hlt' : decide (i < (m : Int)) = false := by simp; omega
    go_enter Try.func46, Try.ntmps46
    go_wp2
    go_quiet (fail)
    go_wp2
    go_quiet (fail)
    go_wp2
    go_ret
    exact ⟨_, (and255_bd _).1, (and255_bd _).2, rfl, ⟨_, _, hi, cur_set hg _⟩, by (repeat (first | exact World.grownBy.refl _ _ | assumption | refine grown_drewN ?_ _ | refine grown_set ?_ _ _))⟩

set_option maxHeartbeats 1000000 in
theorem l1Below_any (g : Nat) (A : Option Addr) (m c : Nat) (bs : List Int) (n : Int) (w : World) (hn : 1 ≤ n) (hn2 : n ≤ 256) (hm : m ≤ maxLen) (hc : Cur w g A m c) (hr : Rd byteC 1 w g A m bs) (hb : ∀ x ∈ bs, 0 ≤ x ∧ x ≤ 255) :
    Calls Try.prog 19 #[.pointer (some ⟨g, 0, none⟩), .int .i64 n] w fun e w' => ∃ x : Nat, (x : Int) < n ∧ e = .returned (.int .i64 x) ∧ Cur w' g A m c ∧ w.grownBy w' (some g) := by
  have hnz : ¬ n = 0 := by omega
  go_enter Try.func19, Try.ntmps19
  go_wp2_with (go_at_call 46; refine (l1Byte_any _ _ _ _ bs _ hm hc hr hb).mono ?_; rintro e w1 ⟨x, x0, x1, rfl, hc1, hg1⟩)
  go_ret
  have e0 := Int.emod_nonneg x hnz
  have e1 := Int.emod_lt_of_pos x (show 0 < n by omega)
  exact ⟨(x % n).toNat, by omega, by rw [Int.toNat_of_nonneg e0]; rfl, hc1, hg1⟩

theorem below_of_grown {w0 w w' : World} {g : Nat} (h : Below w0.heap.size w0 w) (hg : w.grownBy w' (some g)) (hlt : w0.heap.size ≤ g) : Below w0.heap.size w0 w' :=
  h.grown hg h.size (fun k hk => by injection hk with hk; omega)

set_option maxRecDepth 100000 in
set_option maxHeartbeats 1000000 in
theorem l1New_any (A : Option Addr) (m c : Nat) (bs : List Int) (w : World) (hm : m ≤ 4096) (hr : Rd byteC 1 w w.heap.size A m bs) :
    Calls Try.prog 18 #[.slice A m c] w fun e w' => ∃ g, e = .returned (.pointer (some ⟨g, 0, none⟩)) ∧ w.heap.size ≤ g ∧ Cur w' g A m c ∧ Below w.heap.size w w' := by
  go_enter Try.func18, Try.ntmps18
  go_wp2
  go_loop [3, 4] (fun hs i => ∃ (k : Nat) (h : Int), k ≤ m ∧ k ≤ 4000 ∧ i = .int .i64 k ∧ hs = .int .i64 h) (fun _ i => m - (intOf i).toNat)
  case atStart => exact ⟨0, _, Nat.zero_le _, Nat.zero_le _, rfl, rfl⟩
  case round =>
    obtain ⟨k, h, hk, hk4, rfl, rfl⟩ := hrel
    by_cases hlt : k < m
    · by_cases h4 : k < 4000
      · obtain ⟨b, off, x, rfl, hbg, hx, hcx⟩ := hr.at_ hlt
        have hc0 := hcx 0 _ rfl
        simp only [Nat.mul_one, Nat.add_zero] at hc0
        clear hcx hx
        have hki : (k : Int) < (m : Int) := by omega
        have hk0 : (0 : Int) ≤ (k : Int) := by omega
        go_wp2
        go_round
        case rel => exact ⟨k + 1, _, by omega, by omega, by go_num, rfl⟩
        case measure => simp [intOf]; omega
      · go_wp2
        go_ret
        exact ⟨_, rfl, Nat.le_refl _, ⟨0, h, Int.le_refl _, heap_alloc_new w _⟩, by (repeat (first | with_reducible assumption | exact Below.refl _ _ | (refine Below.setCell ?_ (by first | exact Nat.le_refl _ | (simp; done) | omega | (simp; omega)) _) | (refine below_drewN ?_ _) | (refine Below.drew ?_) | (refine Below.alloc ?_ (by first | exact Nat.le_refl _ | (simp; done) | omega | (simp; omega)) _) | (refine then_ ?_ (by with_reducible assumption)) | assumption | (refine then_ ?_ (by assumption))))⟩
    · go_wp2
      go_ret
      exact ⟨_, rfl, Nat.le_refl _, ⟨0, h, Int.le_refl _, heap_alloc_new w _⟩, by (repeat (first | with_reducible assumption | exact Below.refl _ _ | (refine Below.setCell ?_ (by first | exact Nat.le_refl _ | (simp; done) | omega | (simp; omega)) _) | (refine below_drewN ?_ _) | (refine Below.drew ?_) | (refine Below.alloc ?_ (by first | exact Nat.le_refl _ | (simp; done) | omega | (simp; omega)) _) | (refine then_ ?_ (by with_reducible assumption)) | assumption | (refine then_ ?_ (by assumption))))⟩

/-! ### the eight symmetries -/
def allSyms : List (Int × Bool) := (List.range 8).map sym8
theorem infoSym : (Try.prog.info? 31).map (fun i => (i.zero, i.size, i.bytes)) = some (some (.agg #[.int .i64 0, .bool false]), 2, 16) := by kernel_rfl

set_option maxRecDepth 100000 in
set_option maxHeartbeats 2000000 in
theorem l1All_any (w : World) :
    Calls Try.prog 23 #[] w fun e w' => ∃ A c, e = .returned (.slice A 8 c) ∧ w'.ownsRow w.heap.size 31 2 (.slice A 8 c) 8 (flat symC allSyms) ∧ Below w.heap.size w w' := by
  obtain ⟨i0, hi, hz0, hz1, hz2⟩ := info_parts infoSym
  go_enter Try.func23, Try.ntmps23
  go_wp2
  go_loopw [1, 2] (fun v i wr => ∃ k : Nat, k ≤ 8 ∧ i = .int .i64 k ∧ (∃ A c, v = .slice A k c) ∧ wr.ownsRow w.heap.size 31 2 v k (flat symC ((List.range k).map sym8)) ∧ Below w.heap.size w wr) (fun _ i _ => 8 - (intOf i).toNat)
  case atStart => exact ⟨0, by omega, rfl, ⟨_, _, rfl⟩, World.ownsRow_lit w #[] 0 (Nat.le_refl _) (by simp [maxLen]) rfl, by (repeat (first | with_reducible assumption | exact Below.refl _ _ | (refine Below.setCell ?_ (by first | exact Nat.le_refl _ | (simp; done) | omega | (simp; omega)) _) | (refine below_drewN ?_ _) | (refine Below.drew ?_) | (refine Below.alloc ?_ (by first | exact Nat.le_refl _ | (simp; done) | omega | (simp; omega)) _) | (refine then_ ?_ (by with_reducible assumption)) | assumption | (refine then_ ?_ (by assumption))))⟩
  case round =>
    obtain ⟨k, hk, rfl, ⟨A, c, rfl⟩, hown, hw⟩ := hrel
    by_cases hlt : k < 8
    · have hk0 : (0 : Int) ≤ (k : Int) := by omega
      have hk8 : (k : Int) < 8 := by omega
      have OW := Lib.hid hown
      have hbz := hw.size
      clear hown
      go_wp2_with (at_builtin; refine wpList_append_own _ rfl _ _ 46 rfl w.heap.size 31 i0 (.agg #[.int .i64 0, .bool false]) 2 16 Try.underlying46 hi hz0 hz1 hz2 rfl (by decide) _ _ _ rfl (OW.out.alloc _) ⟨wr.heap.size, 0, none⟩ 1 1 [.int .i64 ((k : Int) % 4), .bool (decide ((4 : Int) ≤ k))] rfl rfl ?c1 ?c2 ?c3 ?c4 ?c5 ?_; (case c1 => exact World.news_of_block (cs := #[.int .i64 ((k : Int) % 4), .bool (decide ((4 : Int) ≤ k))]) (t := 31) (fr := (0, 0)) (heap_alloc_new wr _)); (case c2 => simp [Value.oneCell']); (case c3 => unfold maxLen; omega); (case c4 => omega); (case c5 => simp only [World.size_alloc]; omega); intro v1 w1 hown1 hg1 hne1; have OW1 := Lib.hid hown1; have BW1 := below_append hw OW.out hg1; clear hown1 hg1 hne1)
      obtain ⟨A1, c1, rfl⟩ := owns_slice OW1.out
      go_roundw
      case rel =>
        refine ⟨k + 1, by omega, by go_num, ⟨_, _, rfl⟩, ?_, BW1⟩
        have e : flat symC ((List.range (k + 1)).map sym8) = flat symC ((List.range k).map sym8) ++ [.int .i64 ((k : Int) % 4), .bool (decide ((4 : Int) ≤ k))] := by
          rw [List.range_succ, List.map_append, flat_append]
          congr 1
          simp only [List.map_cons, List.map_nil, flat_cons, flat_nil, List.append_nil, symC, sym8]
          have e1 : ((k % 4 : Nat) : Int) = (k : Int) % 4 := by omega
          have e2 : decide (4 ≤ k) = decide ((4 : Int) ≤ (k : Int)) := by
            rw [Bool.eq_iff_iff]; simp; omega
          rw [e1, e2]
        rw [e]
        exact OW1.out
      case measure => simp [intOf]; omega
    · obtain rfl : k = 8 := by omega
      go_wp2
      go_ret
      exact ⟨_, _, rfl, hown, hw⟩
end Go.Proofs.Ytchkcleenmoajaa
