
/- SamePicture, both versions. -/
import Derived.Test.YthlkpopmoodmgaaSEq
import Derived.Test.YthlkpopmoodmgaaToS
namespace Go.Proofs.Ythlkpopmoodmgaa
open Go.RowKit

set_option maxHeartbeats 1000000 in
theorem equalCol_any (A B : Option Addr) (n m c d : Nat) (xs ys : List Col) (w : World) (hn : n ≤ maxLen) (hm : m ≤ maxLen) (ha : Rd colC 3 w w.heap.size A n xs) (hb : Rd colC 3 w w.heap.size B m ys) :
    Calls Try.prog 81 #[.slice A n c, .slice B m d] w fun e w' => e = .returned (.bool (sameCells xs ys)) ∧ Below w.heap.size w w' := by
  unfold maxLen at hn hm
  by_cases hl : n = m
  · subst hl
    go_enter Try.func81, Try.ntmps81
    go_wp2
    go_loopw [5, 13] (fun _ i wr => ∃ k : Nat, k ≤ n ∧ i = .int .i64 k ∧ (∀ (i : Nat) x y, i < k → xs[i]? = some x → ys[i]? = some y → colEqB x y = true) ∧ Below w.heap.size w wr) (fun _ i _ => n - (intOf i).toNat)
    case atStart => exact ⟨0, Nat.zero_le _, rfl, fun i x y h => by omega, Below.refl _ _⟩
    case round =>
      obtain ⟨k, hk, rfl, hall, hw⟩ := hrel
      have HALL := Lib.hid hall
      clear hall
      by_cases hlt : k < n
      · obtain ⟨b, off, r, g, l, rfl, hbl, hx, h0, h1, h2⟩ := (ha.below hw).col hlt
        obtain ⟨b', off', r', g', l', rfl, hbl', hy, h0', h1', h2'⟩ := (hb.below hw).col hlt
        have hki : (k : Int) < (n : Int) := by omega
        have hk0 : (0 : Int) ≤ (k : Int) := by omega
        have HX := Lib.hid hx
        have HY := Lib.hid hy
        clear hx hy
        have kc := fun wx => run_neq_col r g l r' g' l' wx
        have HE : ∃ q, q = colEqB (r, g, l) (r', g', l') := ⟨_, rfl⟩
        obtain ⟨q, hq⟩ := HE
        rw [← hq] at kc
        have HQ := Lib.hid hq
        clear hq
        cases q
        · go_wp2
          go_quiet (fail)
          go_wp2
          go_ret
          exact ⟨by rw [sameCells_no HX.out HY.out HQ.out.symm]; rfl, by (repeat (first | with_reducible assumption | exact Below.refl _ _ | (refine Below.setCell ?_ (by first | exact Nat.le_refl _ | (simp; done) | omega | (simp; omega)) _) | (refine below_drewN ?_ _) | (refine Below.drew ?_) | (refine Below.alloc ?_ (by first | exact Nat.le_refl _ | (simp; done) | omega | (simp; omega)) _) | (refine then_ ?_ (by with_reducible assumption)) | assumption | (refine then_ ?_ (by assumption))))⟩
        · go_wp2
          go_quiet (fail)
          go_wp2
          go_roundw
          case rel =>
            refine ⟨k + 1, by omega, by go_num, fun i x y hi j1 j2 => ?_, by (repeat (first | with_reducible assumption | exact Below.refl _ _ | (refine Below.setCell ?_ (by first | exact Nat.le_refl _ | (simp; done) | omega | (simp; omega)) _) | (refine below_drewN ?_ _) | (refine Below.drew ?_) | (refine Below.alloc ?_ (by first | exact Nat.le_refl _ | (simp; done) | omega | (simp; omega)) _) | (refine then_ ?_ (by with_reducible assumption)) | assumption | (refine then_ ?_ (by assumption))))⟩
            by_cases e : i = k
            · subst e
              rw [HX.out] at j1
              rw [HY.out] at j2
              injection j1 with j1
              injection j2 with j2
              subst j1 j2
              exact HQ.out.symm
            · exact HALL.out i x y (by omega) j1 j2
          case measure => simp [intOf]; omega
      · obtain rfl : k = n := by omega
        have hs : sameCells xs ys = true := sameCells_yes (by rw [ha.1, hb.1]) (fun i x y h1 h2 => HALL.out i x y (by have := (List.getElem?_eq_some_iff.1 h1).1; have := ha.1; omega) h1 h2)
        go_wp2
        go_ret
        exact ⟨by rw [hs]; rfl, hw⟩
  · have hs : sameCells xs ys = false := sameCells_len (by rw [ha.1, hb.1]; exact hl)
    have ht : ((n : Int) != (m : Int)) = true := by rw [bne_iff_ne]; omega
    go_enter Try.func81, Try.ntmps81
    go_wp2
    go_ret
    exact ⟨by rw [hs]; rfl, by (repeat (first | with_reducible assumption | exact Below.refl _ _ | (refine Below.setCell ?_ (by first | exact Nat.le_refl _ | (simp; done) | omega | (simp; omega)) _) | (refine below_drewN ?_ _) | (refine Below.drew ?_) | (refine Below.alloc ?_ (by first | exact Nat.le_refl _ | (simp; done) | omega | (simp; omega)) _) | (refine then_ ?_ (by with_reducible assumption)) | assumption | (refine then_ ?_ (by assumption))))⟩

set_option maxHeartbeats 1000000 in
theorem samePicture_any (A B : Option Addr) (s1 s2 : Int) (n m c d : Nat) (xs ys : List Col) (w : World) (hn : n ≤ maxLen) (hm : m ≤ maxLen) (ha : Rd colC 3 w w.heap.size A n xs) (hb : Rd colC 3 w w.heap.size B m ys) :
    Calls Try.prog 41 #[.agg #[.int .i64 s1, .slice A n c], .agg #[.int .i64 s2, .slice B m d]] w fun e w' => e = .returned (.bool (sameP s1 xs s2 ys)) ∧ Below w.heap.size w w' := by
  have r : sameP s1 xs s2 ys = (s1 == s2 && sameCells xs ys) := rfl
  cases hs : (s1 == s2)
  · rw [hs, Bool.false_and] at r
    have R := Lib.hid r
    clear r
    go_enter Try.func41, Try.ntmps41
    go_wp2
    go_ret
    exact ⟨by rw [R.out]; rfl, by (repeat (first | with_reducible assumption | exact Below.refl _ _ | (refine Below.setCell ?_ (by first | exact Nat.le_refl _ | (simp; done) | omega | (simp; omega)) _) | (refine below_drewN ?_ _) | (refine Below.drew ?_) | (refine Below.alloc ?_ (by first | exact Nat.le_refl _ | (simp; done) | omega | (simp; omega)) _) | (refine then_ ?_ (by with_reducible assumption)) | assumption | (refine then_ ?_ (by assumption))))⟩
  · rw [hs, Bool.true_and] at r
    have R := Lib.hid r
    clear r
    go_enter Try.func41, Try.ntmps41
    go_wp2_with (go_at_call 81; refine (equalCol_any _ _ _ _ _ _ xs ys _ hn hm (ha.step ?_) (hb.step ?_)).mono ?_; (repeat (first | with_reducible assumption | exact Below.refl _ _ | (refine Below.setCell ?_ (by first | exact Nat.le_refl _ | (simp; done) | omega | (simp; omega)) _) | (refine below_drewN ?_ _) | (refine Below.drew ?_) | (refine Below.alloc ?_ (by first | exact Nat.le_refl _ | (simp; done) | omega | (simp; omega)) _) | (refine then_ ?_ (by with_reducible assumption)) | assumption | (refine then_ ?_ (by assumption)))); rintro e w' ⟨rfl, hb1⟩)
    go_ret
    exact ⟨by rw [R.out]; rfl, by (repeat (first | with_reducible assumption | exact Below.refl _ _ | (refine Below.setCell ?_ (by first | exact Nat.le_refl _ | (simp; done) | omega | (simp; omega)) _) | (refine below_drewN ?_ _) | (refine Below.drew ?_) | (refine Below.alloc ?_ (by first | exact Nat.le_refl _ | (simp; done) | omega | (simp; omega)) _) | (refine then_ ?_ (by with_reducible assumption)) | assumption | (refine then_ ?_ (by assumption))))⟩

set_option maxHeartbeats 1000000 in
theorem specSamePicture_any (A B : Option Addr) (s1 s2 : Int) (n m c d : Nat) (xs ys : List Col) (w : World) (hn : n ≤ maxLen) (hm : m ≤ maxLen) (ha : Rd colC 3 w w.heap.size A n xs) (hb : Rd colC 3 w w.heap.size B m ys) :
    Calls Try.prog 90 #[.agg #[.int .i64 s1, .slice A n c], .agg #[.int .i64 s2, .slice B m d]] w fun e w' => e = .returned (.bool (sameP s1 xs s2 ys)) ∧ Below w.heap.size w w' := by
  unfold maxLen at hn hm
  have r : sameP s1 xs s2 ys = (s1 == s2 && sameCells xs ys) := rfl
  cases hs : (s1 == s2)
  · rw [hs, Bool.false_and] at r
    have hs' : (s1 != s2) = true := by rw [bne, hs]; rfl
    have R := Lib.hid r
    clear r
    go_enter Try.func90, Try.ntmps90
    go_wp2
    go_ret
    exact ⟨by rw [R.out]; rfl, by (repeat (first | with_reducible assumption | exact Below.refl _ _ | (refine Below.setCell ?_ (by first | exact Nat.le_refl _ | (simp; done) | omega | (simp; omega)) _) | (refine below_drewN ?_ _) | (refine Below.drew ?_) | (refine Below.alloc ?_ (by first | exact Nat.le_refl _ | (simp; done) | omega | (simp; omega)) _) | (refine then_ ?_ (by with_reducible assumption)) | assumption | (refine then_ ?_ (by assumption))))⟩
  · have hs' : (s1 != s2) = false := by rw [bne, hs]; rfl
    by_cases hl : n = m
    · subst hl
      have R := Lib.hid r
      clear r
      have hz : ((n : Int) != (n : Int)) = false := by simp
      go_enter Try.func90, Try.ntmps90
      go_wp2
      go_loopw [5, 23] (fun _ i wr => ∃ k : Nat, k ≤ n ∧ i = .int .i64 k ∧ (∀ (i : Nat) x y, i < k → xs[i]? = some x → ys[i]? = some y → colEqB x y = true) ∧ Below w.heap.size w wr ∧
          wr.cell? ⟨w.heap.size, 1, none⟩ = some (.slice A n c) ∧ wr.cell? ⟨w.heap.size + 1, 1, none⟩ = some (.slice B n d)) (fun _ i _ => n - (intOf i).toNat)
      case atStart => exact ⟨0, Nat.zero_le _, rfl, fun i x y h => by omega, by (repeat (first | with_reducible assumption | exact Below.refl _ _ | (refine Below.setCell ?_ (by first | exact Nat.le_refl _ | (simp; done) | omega | (simp; omega)) _) | (refine below_drewN ?_ _) | (refine Below.drew ?_) | (refine Below.alloc ?_ (by first | exact Nat.le_refl _ | (simp; done) | omega | (simp; omega)) _) | (refine then_ ?_ (by with_reducible assumption)) | assumption | (refine then_ ?_ (by assumption)))), by simp [go_sem], by simp [go_sem]⟩
      case round =>
        obtain ⟨k, hk, rfl, hall, hw, hcA, hcB⟩ := hrel
        have HALL := Lib.hid hall
        clear hall
        by_cases hlt : k < n
        · obtain ⟨b, off, r, g, l, rfl, hbl, hx, h0, h1, h2⟩ := (ha.below hw).col hlt
          obtain ⟨b', off', r', g', l', rfl, hbl', hy, h0', h1', h2'⟩ := (hb.below hw).col hlt
          have hki : (k : Int) < (n : Int) := by omega
          have hk0 : (0 : Int) ≤ (k : Int) := by omega
          have HX := Lib.hid hx
          have HY := Lib.hid hy
          clear hx hy
          have kc := fun wx => run_neq_col r g l r' g' l' wx
          have HE : ∃ q, q = colEqB (r, g, l) (r', g', l') := ⟨_, rfl⟩
          obtain ⟨q, hq⟩ := HE
          rw [← hq] at kc
          have HQ := Lib.hid hq
          clear hq
          cases q
          · go_wp2
            go_quiet (fail)
            go_wp2
            go_ret
            exact ⟨by rw [R.out, sameCells_no HX.out HY.out HQ.out.symm, Bool.and_false]; rfl, by (repeat (first | with_reducible assumption | exact Below.refl _ _ | (refine Below.setCell ?_ (by first | exact Nat.le_refl _ | (simp; done) | omega | (simp; omega)) _) | (refine below_drewN ?_ _) | (refine Below.drew ?_) | (refine Below.alloc ?_ (by first | exact Nat.le_refl _ | (simp; done) | omega | (simp; omega)) _) | (refine then_ ?_ (by with_reducible assumption)) | assumption | (refine then_ ?_ (by assumption))))⟩
          · go_wp2
            go_quiet (fail)
            go_wp2
            go_roundw
            case rel =>
              refine ⟨k + 1, by omega, by go_num, fun i x y hi j1 j2 => ?_, by (repeat (first | with_reducible assumption | exact Below.refl _ _ | (refine Below.setCell ?_ (by first | exact Nat.le_refl _ | (simp; done) | omega | (simp; omega)) _) | (refine below_drewN ?_ _) | (refine Below.drew ?_) | (refine Below.alloc ?_ (by first | exact Nat.le_refl _ | (simp; done) | omega | (simp; omega)) _) | (refine then_ ?_ (by with_reducible assumption)) | assumption | (refine then_ ?_ (by assumption)))), hcA, hcB⟩
              by_cases e : i = k
              · subst e
                rw [HX.out] at j1
                rw [HY.out] at j2
                injection j1 with j1
                injection j2 with j2
                subst j1 j2
                exact HQ.out.symm
              · exact HALL.out i x y (by omega) j1 j2
            case measure => simp [intOf]; omega
        · obtain rfl : k = n := by omega
          have hq : sameCells xs ys = true := sameCells_yes (by rw [ha.1, hb.1]) (fun i x y h1 h2 => HALL.out i x y (by have := (List.getElem?_eq_some_iff.1 h1).1; have := ha.1; omega) h1 h2)
          have HQ := Lib.hid hq
          clear hq
          go_wp2
          go_ret
          exact ⟨by rw [R.out, HQ.out, hs]; rfl, hw⟩
    · have hq : sameCells xs ys = false := sameCells_len (by rw [ha.1, hb.1]; exact hl)
      rw [hq, Bool.and_false] at r
      have ht : ((n : Int) != (m : Int)) = true := by rw [bne_iff_ne]; omega
      have R := Lib.hid r
      clear r hq
      go_enter Try.func90, Try.ntmps90
      go_wp2
      go_ret
      exact ⟨by rw [R.out]; rfl, by (repeat (first | with_reducible assumption | exact Below.refl _ _ | (refine Below.setCell ?_ (by first | exact Nat.le_refl _ | (simp; done) | omega | (simp; omega)) _) | (refine below_drewN ?_ _) | (refine Below.drew ?_) | (refine Below.alloc ?_ (by first | exact Nat.le_refl _ | (simp; done) | omega | (simp; omega)) _) | (refine then_ ?_ (by with_reducible assumption)) | assumption | (refine then_ ?_ (by assumption))))⟩
end Go.Proofs.Ythlkpopmoodmgaa
