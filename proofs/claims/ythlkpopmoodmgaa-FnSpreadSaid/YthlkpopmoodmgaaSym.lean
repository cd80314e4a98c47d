
/- The walks of ActSym, ThenSym, BackSym. -/
import Derived.Test.YthlkpopmoodmgaaGeo
namespace Go.Proofs.Ythlkpopmoodmgaa
open Go.RowKit

def symV (t : Int) (f : Bool) : Value := .agg #[.int .i64 t, .bool f]
/-- impl.ActSym -/
def actP (t : Int) (f : Bool) (re im : Nat) : Nat × Nat := if inB t 0 3 && pointB re im then actI t f re im else (0, 0)

theorem inB_true {n lo hi : Int} (h : inB n lo hi = true) : lo ≤ n ∧ n ≤ hi := by simpa [inB] using h

set_option maxHeartbeats 1000000 in
theorem actSym_ok (t : Int) (f : Bool) (re im : Nat) (w : World) (ht : inB t 0 3 = true) (hp : pointB re im = true) :
    Calls Try.prog 93 #[.agg #[.int .i64 t, .bool f], .complex .f32 re im] w fun e w' => e = .returned (cxV (actI t f re im)) ∧ Below w.heap.size w w' := by
  obtain ⟨t0, t3⟩ := inB_true ht
  obtain ⟨t, rfl⟩ := Int.eq_ofNat_of_zero_le t0
  obtain ⟨p0, R0⟩ : ∃ p0, p0 = (re, flipB f im) := ⟨_, rfl⟩
  have R := Lib.hid R0
  clear R0
  cases f
  all_goals
    go_enter Try.func93, Try.ntmps93
    go_wp2_with (first
      | (go_at_call 76; refine (isSym_any _ _ _).mono ?_; rintro e w1 ⟨rfl, hb1⟩; simp only [ht]; obtain ⟨hc1, hf1⟩ := bcell hb1)
      | (go_at_call 92; refine (isPoint_any _ _ _).mono ?_; rintro e w' ⟨rfl, rfl⟩; simp only [hp])
      | (go_at_call 106; refine (diff_any _ _ _).mono ?_; rintro e w' ⟨rfl, n, rfl⟩))
    have hb := after1 hb1
    go_loopw [5, 6, 25] (fun x y i wr => ∃ k : Nat, k ≤ t ∧ i = .int .i64 k ∧ x = .float .f32 (rotN k p0).1 ∧ y = .float .f32 (rotN k p0).2 ∧ Below w.heap.size w wr) (fun _ _ i _ => t - (intOf i).toNat)
    case atStart => exact ⟨0, Nat.zero_le _, rfl, by rw [R.out]; rfl, by rw [R.out]; rfl, by first | exact hb | exact below_drewN hb _⟩
    case round =>
      clear hb hc1 hf1 hb1
      obtain ⟨k, hk, rfl, rfl, rfl, hb⟩ := hrel
      by_cases hlt : k < t
      · go_wp2_with (go_at_call 106; refine (diff_any _ _ _).mono ?_; rintro e w' ⟨rfl, n, rfl⟩)
        go_roundw
        case rel => exact ⟨k + 1, by omega, by go_num, rfl, rfl, below_drewN hb _⟩
        case measure => simp [intOf]; omega
      · obtain rfl : k = t := by omega
        go_wp2_with (go_at_call 120; refine (clean_any _ _).mono ?_; rintro e w' ⟨rfl, n, rfl⟩)
        go_ret
        exact ⟨by unfold actI; rw [Int.toNat_natCast, ← R.out]; rfl, below_drewN hb _⟩

theorem actSym_any (t : Int) (f : Bool) (re im : Nat) (w : World) :
    Calls Try.prog 93 #[.agg #[.int .i64 t, .bool f], .complex .f32 re im] w fun e w' => e = .returned (cxV (actP t f re im)) ∧ Below w.heap.size w w' := by
  have r : actP t f re im = if inB t 0 3 && pointB re im then actI t f re im else (0, 0) := rfl
  cases ht : inB t 0 3
  · rw [ht] at r
    have R := Lib.hid r
    clear r
    go_enter Try.func93, Try.ntmps93
    go_wp2_with (go_at_call 76; refine (isSym_any _ _ _).mono ?_; rintro e w1 ⟨rfl, hb1⟩; simp only [ht]; obtain ⟨hc1, hf1⟩ := bcell hb1)
    go_ret
    exact ⟨by rw [R.out]; rfl, after1 hb1⟩
  · cases hp : pointB re im
    · rw [ht, hp] at r
      have R := Lib.hid r
      clear r
      go_enter Try.func93, Try.ntmps93
      go_wp2_with (first
        | (go_at_call 76; refine (isSym_any _ _ _).mono ?_; rintro e w1 ⟨rfl, hb1⟩; simp only [ht]; obtain ⟨hc1, hf1⟩ := bcell hb1)
        | (go_at_call 92; refine (isPoint_any _ _ _).mono ?_; rintro e w' ⟨rfl, rfl⟩; simp only [hp]))
      go_ret
      exact ⟨by rw [R.out]; rfl, after1 hb1⟩
    · rw [ht, hp] at r
      rw [r]
      exact actSym_ok t f re im w ht hp

/-- impl.ThenSym -/
def thenT (gt : Int) (ht : Int) (hf : Bool) : Int := (ht + (if hf then 4 - gt else gt)) % 4
def thenP (gt : Int) (gf : Bool) (ht : Int) (hf : Bool) : Int × Bool := if inB gt 0 3 && inB ht 0 3 then (thenT gt ht hf, gf != hf) else (0, false)
def symP (p : Int × Bool) : Value := symV p.1 p.2

set_option maxHeartbeats 1000000 in
theorem thenSym_any (gt : Int) (gf : Bool) (ht : Int) (hf : Bool) (w : World) :
    Calls Try.prog 43 #[.agg #[.int .i64 gt, .bool gf], .agg #[.int .i64 ht, .bool hf]] w fun e w' => e = .returned (symP (thenP gt gf ht hf)) ∧ Below w.heap.size w w' := by
  have r : thenP gt gf ht hf = if inB gt 0 3 && inB ht 0 3 then (thenT gt ht hf, gf != hf) else (0, false) := rfl
  cases hg : inB gt 0 3
  · rw [hg] at r
    have R := Lib.hid r
    clear r
    go_enter Try.func43, Try.ntmps43
    go_wp2_with (go_at_call 76; refine (isSym_any _ _ _).mono ?_; rintro e w1 ⟨rfl, hb1⟩; simp only [hg]; obtain ⟨hc1, hf1⟩ := bcell hb1)
    have hb := after3 hb1
    have hz := hb1.size
    simp only [World.size_alloc] at hz
    exact bodyPost_ret (v := symV 0 false) (by simp [results, Try.results43, go_sem, symV, hc1]) rfl ⟨by rw [R.out]; rfl, by (repeat (first | with_reducible assumption | exact Below.refl _ _ | (refine Below.setCell ?_ (by first | exact Nat.le_refl _ | (simp; done) | omega | (simp; omega)) _) | (refine below_drewN ?_ _) | (refine Below.drew ?_) | (refine Below.alloc ?_ (by first | exact Nat.le_refl _ | (simp; done) | omega | (simp; omega)) _) | (refine then_ ?_ (by with_reducible assumption)) | assumption | (refine then_ ?_ (by assumption))))⟩
  · cases hh : inB ht 0 3
    · rw [hg, hh] at r
      have R := Lib.hid r
      clear r
      go_enter Try.func43, Try.ntmps43
      go_wp2_with (first
        | (go_at_call 76; (with_reducible refine (isSym_any gt _ _).mono ?_); rintro e w1 ⟨rfl, hb1⟩; simp only [hg]; obtain ⟨hc1, hf1⟩ := bcell hb1; have hz := hb1.size; simp only [World.size_alloc] at hz)
        | (go_at_call 76; (with_reducible refine (isSym_any ht _ _).mono ?_); rintro e w2 ⟨rfl, hb20⟩; simp only [hh]; have hb2 := hb1.trans (hb20.mono hb1.size); clear hc1 hf1; obtain ⟨hc2, hf2⟩ := bcell hb2))
      have hb := after3 hb2
      have hz2 := hb2.size
      simp only [World.size_alloc] at hz2
      exact bodyPost_ret (v := symV 0 false) (by simp [results, Try.results43, go_sem, symV, hc2]) rfl ⟨by rw [R.out]; rfl, by (repeat (first | with_reducible assumption | exact Below.refl _ _ | (refine Below.setCell ?_ (by first | exact Nat.le_refl _ | (simp; done) | omega | (simp; omega)) _) | (refine below_drewN ?_ _) | (refine Below.drew ?_) | (refine Below.alloc ?_ (by first | exact Nat.le_refl _ | (simp; done) | omega | (simp; omega)) _) | (refine then_ ?_ (by with_reducible assumption)) | assumption | (refine then_ ?_ (by assumption))))⟩
    · rw [hg, hh] at r
      have R := Lib.hid r
      clear r
      obtain ⟨g0, g3⟩ := inB_true hg
      obtain ⟨h0, h3⟩ := inB_true hh
      cases hf
      all_goals
        go_enter Try.func43, Try.ntmps43
        go_wp2_with (first
          | (go_at_call 76; (with_reducible refine (isSym_any gt _ _).mono ?_); rintro e w1 ⟨rfl, hb1⟩; simp only [hg]; obtain ⟨hc1, hf1⟩ := bcell hb1; have hz := hb1.size; simp only [World.size_alloc] at hz)
          | (go_at_call 76; (with_reducible refine (isSym_any ht _ _).mono ?_); rintro e w2 ⟨rfl, hb20⟩; simp only [hh]; have hb2 := hb1.trans (hb20.mono hb1.size); clear hc1 hf1; obtain ⟨hc2, hf2⟩ := bcell hb2))
        have hb := after3 hb2
        have hz2 := hb2.size
        simp only [World.size_alloc] at hz2
        refine bodyPost_ret (v := symP (thenP gt gf ht _)) (by rw [R.out]; simp [results, Try.results43, go_sem, symV, symP, thenT, hc2]) rfl ⟨rfl, by (repeat (first | with_reducible assumption | exact Below.refl _ _ | (refine Below.setCell ?_ (by first | exact Nat.le_refl _ | (simp; done) | omega | (simp; omega)) _) | (refine below_drewN ?_ _) | (refine Below.drew ?_) | (refine Below.alloc ?_ (by first | exact Nat.le_refl _ | (simp; done) | omega | (simp; omega)) _) | (refine then_ ?_ (by with_reducible assumption)) | assumption | (refine then_ ?_ (by assumption))))⟩
end Go.Proofs.Ythlkpopmoodmgaa
