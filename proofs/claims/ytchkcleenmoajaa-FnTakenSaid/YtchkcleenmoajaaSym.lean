
/- The walks of ActSym, ThenSym, BackSym. -/
import Derived.Test.YtchkcleenmoajaaGeo
namespace Go.Proofs.Ytchkcleenmoajaa
open Go.RowKit

def symV (t : Int) (f : Bool) : Value := .agg #[.int .i64 t, .bool f]
/-- impl.ActSym -/
def actP (t : Int) (f : Bool) (re im : Nat) : Nat × Nat := if inB t 0 3 && pointB re im then actI t f re im else (0, 0)

theorem inB_true {n lo hi : Int} (h : inB n lo hi = true) : lo ≤ n ∧ n ≤ hi := by simpa [inB] using h

set_option maxHeartbeats 1000000 in
theorem actSym_ok (t : Int) (f : Bool) (re im : Nat) (w : World) (ht : inB t 0 3 = true) (hp : pointB re im = true) :
    Calls Try.prog 26 #[.agg #[.int .i64 t, .bool f], .complex .f32 re im] w fun e w' => e = .returned (cxV (actI t f re im)) ∧ Below w.heap.size w w' := by
  obtain ⟨t0, t3⟩ := inB_true ht
  obtain ⟨t, rfl⟩ := Int.eq_ofNat_of_zero_le t0
  obtain ⟨p0, R0⟩ : ∃ p0, p0 = (re, flipB f im) := ⟨_, rfl⟩
  have R := Lib.hid R0
  clear R0
  cases f
  all_goals
    go_enter Try.func26, Try.ntmps26
    go_wp2_with (first
      | (go_at_call 24; refine (isSym_any _ _ _).mono ?_; rintro e w1 ⟨rfl, hb1⟩; simp only [ht]; obtain ⟨hc1, hf1⟩ := bcell hb1)
      | (go_at_call 49; refine (isPoint_any _ _ _).mono ?_; rintro e w' ⟨rfl, rfl⟩; simp only [hp])
      | (go_at_call 51; refine (diff_any _ _ _).mono ?_; rintro e w' ⟨rfl, n, rfl⟩))
    have hb := after1 hb1
    go_loopw [5, 6, 25] (fun x y i wr => ∃ k : Nat, k ≤ t ∧ i = .int .i64 k ∧ x = .float .f32 (rotN k p0).1 ∧ y = .float .f32 (rotN k p0).2 ∧ Below w.heap.size w wr) (fun _ _ i _ => t - (intOf i).toNat)
    case atStart => exact ⟨0, Nat.zero_le _, rfl, by rw [R.out]; rfl, by rw [R.out]; rfl, by first | exact hb | exact below_drewN hb _⟩
    case round =>
      clear hb hc1 hf1 hb1
      obtain ⟨k, hk, rfl, rfl, rfl, hb⟩ := hrel
      by_cases hlt : k < t
      · go_wp2_with (go_at_call 51; refine (diff_any _ _ _).mono ?_; rintro e w' ⟨rfl, n, rfl⟩)
        go_roundw
        case rel => exact ⟨k + 1, by omega, by go_num, rfl, rfl, below_drewN hb _⟩
        case measure => simp [intOf]; omega
      · obtain rfl : k = t := by omega
        go_wp2_with (go_at_call 52; refine (clean_any _ _).mono ?_; rintro e w' ⟨rfl, n, rfl⟩)
        go_ret
        exact ⟨by unfold actI; rw [Int.toNat_natCast, ← R.out]; rfl, below_drewN hb _⟩

theorem actSym_any (t : Int) (f : Bool) (re im : Nat) (w : World) :
    Calls Try.prog 26 #[.agg #[.int .i64 t, .bool f], .complex .f32 re im] w fun e w' => e = .returned (cxV (actP t f re im)) ∧ Below w.heap.size w w' := by
  have r : actP t f re im = if inB t 0 3 && pointB re im then actI t f re im else (0, 0) := rfl
  cases ht : inB t 0 3
  · rw [ht] at r
    have R := Lib.hid r
    clear r
    go_enter Try.func26, Try.ntmps26
    go_wp2_with (go_at_call 24; refine (isSym_any _ _ _).mono ?_; rintro e w1 ⟨rfl, hb1⟩; simp only [ht]; obtain ⟨hc1, hf1⟩ := bcell hb1)
    go_ret
    exact ⟨by rw [R.out]; rfl, after1 hb1⟩
  · cases hp : pointB re im
    · rw [ht, hp] at r
      have R := Lib.hid r
      clear r
      go_enter Try.func26, Try.ntmps26
      go_wp2_with (first
        | (go_at_call 24; refine (isSym_any _ _ _).mono ?_; rintro e w1 ⟨rfl, hb1⟩; simp only [ht]; obtain ⟨hc1, hf1⟩ := bcell hb1)
        | (go_at_call 49; refine (isPoint_any _ _ _).mono ?_; rintro e w' ⟨rfl, rfl⟩; simp only [hp]))
      go_ret
      exact ⟨by rw [R.out]; rfl, after1 hb1⟩
    · rw [ht, hp] at r
      rw [r]
      exact actSym_ok t f re im w ht hp

/-- impl.ThenSym -/
def thenT (gt : Int) (ht : Int) (hf : Bool) : Int := (ht + (if hf then 4 - gt else gt)) % 4
def thenP (gt : Int) (gf : Bool) (ht : Int) (hf : Bool) : Int × Bool := if inB gt 0 3 && inB ht 0 3 then (thenT gt ht hf, gf != hf) else (0, false)
def symP (p : Int × Bool) : Value := symV p.1 p.2

end Go.Proofs.Ytchkcleenmoajaa
