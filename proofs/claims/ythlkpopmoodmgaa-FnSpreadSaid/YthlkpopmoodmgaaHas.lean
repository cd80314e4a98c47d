
/- laws.has, laws.big; ActPicture on a picture of a known size. -/
import Derived.Test.YthlkpopmoodmgaaPicL
import Derived.Test.YthlkpopmoodmgaaDrawPic2
namespace Go.Proofs.Ythlkpopmoodmgaa
open Go.RowKit

theorem bigS_any (A : Option Addr) (m c : Nat) (w : World) :
    Calls Try.prog 39 #[.slice A m c] w fun e w' => e = .returned (.bool (decide ((4096 : Int) < m))) ∧ w = w' := by
  go_enter Try.func39, Try.ntmps39
  go_wp2
  go_ret
  exact ⟨rfl, rfl⟩

set_option maxRecDepth 100000 in
set_option maxHeartbeats 4000000 in
theorem has_any (t : Int) (f : Bool) (G : Option Addr) (m cc : Nat) (l : List (Int × Bool)) (w : World) (hm : m ≤ 1048576) (hl : Rd symC 2 w w.heap.size G m l) :
    Calls Try.prog 46 #[.slice G m cc, .agg #[.int .i64 t, .bool f]] w fun e w' => e = .returned (.bool (inS l (t, f))) ∧ Below w.heap.size w w' := by
  go_enter Try.func46, Try.ntmps46
  go_wp2_with fail
  obtain ⟨W, hWe⟩ : ∃ W, W = w.alloc (Obj.cells #[.int .i64 t, .bool f] 52) := ⟨_, rfl⟩
  have hW : Below w.heap.size w W := by rw [hWe]; (repeat (first | with_reducible assumption | exact Below.refl _ _ | (refine Below.setCell ?_ (by first | exact Nat.le_refl _ | (simp; done) | omega | (simp; omega)) _) | (refine below_drewN ?_ _) | (refine Below.drew ?_) | (refine Below.alloc ?_ (by first | exact Nat.le_refl _ | (simp; done) | omega | (simp; omega)) _) | (refine then_ ?_ (by with_reducible assumption)) | assumption | (refine then_ ?_ (by assumption))))
  have zW : w.heap.size < W.heap.size := by rw [hWe]; simp
  have q0 : W.cell? ⟨w.heap.size, 0, none⟩ = some (.int .i64 t) := by rw [hWe]; simp [go_sem]
  have q1 : W.cell? ⟨w.heap.size, 1, none⟩ = some (.bool f) := by rw [hWe]; simp [go_sem]
  rw [← hWe]
  clear hWe
  go_loopw [5] (fun i wr => ∃ k : Nat, k ≤ m ∧ i = .int .i64 k ∧ (∀ (i : Nat) y, i < k → l[i]? = some y → ((t, f) == y) = false) ∧ Below W.heap.size W wr) (fun i _ => m - (intOf i).toNat)
  case atStart => exact ⟨0, Nat.zero_le _, rfl, fun i y h => by omega, Below.refl _ _⟩
  case round =>
    obtain ⟨k, hk, rfl, hall, hw⟩ := hrel
    have HALL := Lib.hid hall
    clear hall
    have hB := then_ hW hw
    by_cases hlt : k < m
    · obtain ⟨b, off, t', f', rfl, hbl, hx, c0, c1⟩ := (hl.below hB).sym hlt
      have hki : (k : Int) < (m : Int) := by omega
      have hk0 : (0 : Int) ≤ (k : Int) := by omega
      have HX := Lib.hid hx
      clear hx
      have d0 := keepC q0 hw
      have d1 := keepC q1 hw
      have kc := fun wx => run_eql_sym t' t f' f wx
      obtain ⟨q, hq⟩ : ∃ q, q = ((t', f') == (t, f)) := ⟨_, rfl⟩
      rw [← hq] at kc
      rw [BEq.comm] at hq
      have HQ := Lib.hid hq
      clear hq q0 q1
      cases q
      · go_wp2
        go_quiet (fail)
        go_wp2
        go_roundw
        case rel =>
          refine ⟨k + 1, by omega, by go_num, fun i y hi j1 => ?_, by (repeat (first | with_reducible assumption | exact Below.refl _ _ | (refine Below.setCell ?_ (by first | exact Nat.le_refl _ | (simp; done) | omega | (simp; omega)) _) | (refine below_drewN ?_ _) | (refine Below.drew ?_) | (refine Below.alloc ?_ (by first | exact Nat.le_refl _ | (simp; done) | omega | (simp; omega)) _) | (refine then_ ?_ (by with_reducible assumption)) | assumption | (refine then_ ?_ (by assumption))))⟩
          by_cases e : i = k
          · subst e
            rw [HX.out] at j1
            injection j1 with j1
            subst j1
            exact HQ.out.symm
          · exact HALL.out i y (by omega) j1
        case measure => simp [intOf]; omega
      · have hs := Lib.hid (contains_yes HX.out HQ.out.symm)
        go_wp2
        go_quiet (fail)
        go_wp2
        go_ret
        exact ⟨by rw [hs.out]; rfl, by (repeat (first | with_reducible assumption | exact Below.refl _ _ | (refine Below.setCell ?_ (by first | exact Nat.le_refl _ | (simp; done) | omega | (simp; omega)) _) | (refine below_drewN ?_ _) | (refine Below.drew ?_) | (refine Below.alloc ?_ (by first | exact Nat.le_refl _ | (simp; done) | omega | (simp; omega)) _) | (refine then_ ?_ (by with_reducible assumption)) | assumption | (refine then_ ?_ (by assumption))))⟩
    · obtain rfl : k = m := by omega
      have hs := Lib.hid (contains_no (l := l) (g := (t, f)) (fun i y h1 => HALL.out i y (by have := (List.getElem?_eq_some_iff.1 h1).1; have := hl.1; omega) h1))
      go_wp2
      go_ret
      exact ⟨by rw [hs.out]; rfl, hB⟩

theorem actPicC {q : Nat} {xs : List Col} {t : Int} {f : Bool} (hp : Pic q xs) (hg : inB t 0 3 = true) (A : Option Addr) (c : Nat) (w : World) (ha : Rd colC 3 w w.heap.size A xs.length xs) :
    Calls Try.prog 35 #[.agg #[.int .i64 t, .bool f], .agg #[.int .i64 ((q : Int) + 1), .slice A xs.length c]] w fun e w' => ∃ B d, e = .returned (.agg #[.int .i64 ((q : Int) + 1), .slice B (actL t f ((q : Int) + 1) xs).2.length d]) ∧ Rd colC 3 w' w'.heap.size B (actL t f ((q : Int) + 1) xs).2.length (actL t f ((q : Int) + 1) xs).2 ∧ Below w.heap.size w w' := by
  have hn : xs.length ≤ maxLen := by
    have h25 : (q + 1) * (q + 1) ≤ 8 * 8 := Nat.mul_le_mul (by have := hp.1; omega) (by have := hp.1; omega)
    rw [hp.2.1]; unfold maxLen; omega
  refine (actPicture_any t f _ A _ c xs w hn ha).mono ?_
  rintro e w' ⟨B, d, rfl, ho, hb⟩
  have h1 := (act_pic (g := (t, f)) hp hg).2
  dsimp only at h1
  rw [h1]
  exact ⟨B, d, rfl, Rd.of_own colC_len rfl ho, hb⟩
theorem pic_len {q : Nat} {xs : List Col} (hp : Pic q xs) : xs.length ≤ 64 := by
  have h25 : (q + 1) * (q + 1) ≤ 8 * 8 := Nat.mul_le_mul (by have := hp.1; omega) (by have := hp.1; omega)
  rw [hp.2.1]; omega
end Go.Proofs.Ythlkpopmoodmgaa
