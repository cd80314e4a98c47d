
/- MirrorsOfPicture, the reference's; both are the same. -/
import Derived.Test.YthlkpopmoodmgaaMirP
import Derived.Test.YthlkpopmoodmgaaPicP
import Derived.Deep.RegionLaw
namespace Go.Proofs.Ythlkpopmoodmgaa
open Go.RowKit

def okA (s : Int) (xs : List Col) (k : Nat) : Bool := pictB s xs && (symsL (k : Int)).all (keepB s xs)
def mirP (s : Int) (xs : List Col) : Int := lastUp (okA s xs) (-1) 4

theorem symsL_in : ∀ k : Nat, k < 4 → ∀ g ∈ symsL (k : Int), g ∈ symsL 3 := by decide
theorem symsL_ok : ∀ g ∈ symsL 3, inB g.1 0 3 = true := by decide
theorem inS_iff {l : List (Int × Bool)} {g : Int × Bool} : inS l g = true ↔ g ∈ l := by unfold inS; exact List.contains_iff_mem
theorem okIn_eq {s : Int} {xs : List Col} (h : pictB s xs = true) {k : Nat} (hk : k < 4) : okIn (symsP s xs) k = okA s xs k := by
  unfold okIn okA symsP
  rw [h, Bool.true_and, if_pos rfl, Bool.eq_iff_iff, List.all_eq_true, List.all_eq_true]
  constructor
  · intro h1 g hg
    exact (List.mem_filter.1 (inS_iff.1 (h1 g hg))).2
  · intro h1 g hg
    exact inS_iff.2 (List.mem_filter.2 ⟨symsL_in k hk g hg, h1 g hg⟩)
theorem okA_zero {s : Int} {xs : List Col} (h : pictB s xs = true) : okA s xs 0 = true := by
  obtain ⟨q, rfl, hp⟩ := pic_of h
  unfold okA
  rw [h, Bool.true_and, show symsL ((0 : Nat) : Int) = [(0, false)] by decide, List.all_cons, keep_id hp]
  rfl
theorem mirI_eq (s : Int) (xs : List Col) : mirI s xs = mirP s xs := by
  unfold mirI mirP
  cases h : pictB s xs
  · have e : ∀ k, okA s xs k = false := fun k => by unfold okA; rw [h]; rfl
    simp [lastUp, e]
  · rw [if_pos rfl]
    unfold lastUp lastUp lastUp lastUp lastUp
    rw [okIn_eq h (by omega), okIn_eq h (by omega), okIn_eq h (by omega), okIn_eq h (by omega), okA_zero h]
    rfl

/-- how far the inner loop has come -/
def allB (s : Int) (xs : List Col) (l : List (Int × Bool)) (j : Nat) : Bool := pictB s xs && (l.take j).all (keepB s xs)
theorem allB_zero (s : Int) (xs : List Col) (l : List (Int × Bool)) : allB s xs l 0 = pictB s xs := by simp [allB]
theorem allB_succ {s : Int} {xs : List Col} {l : List (Int × Bool)} {j : Nat} {g : Int × Bool} (hx : l[j]? = some g) : allB s xs l (j + 1) = (allB s xs l j && keepB s xs g) := by
  unfold allB
  rw [List.take_add_one, hx, List.all_append, Bool.and_assoc]
  simp

set_option maxRecDepth 100000 in
set_option maxHeartbeats 8000000 in
theorem specMirrorsOfPicture_any (s : Int) (A : Option Addr) (n c : Nat) (xs : List Col) (w : World) (hn : n ≤ maxLen) (ha : Rd colC 3 w w.heap.size A n xs) :
    Calls Try.prog 49 #[.agg #[.int .i64 s, .slice A n c]] w fun e w' => e = .returned (.int .i64 (mirP s xs)) ∧ Below w.heap.size w w' := by
  go_enter Try.func49, Try.ntmps49
  go_wp2_with fail
  obtain ⟨W, hWe⟩ : ∃ W, W = w.alloc (Obj.cells #[.int .i64 s, .slice A n c] 29) := ⟨_, rfl⟩
  have hW : Below w.heap.size w W := by rw [hWe]; (repeat (first | with_reducible assumption | exact Below.refl _ _ | (refine Below.setCell ?_ (by first | exact Nat.le_refl _ | (simp; done) | omega | (simp; omega)) _) | (refine below_drewN ?_ _) | (refine Below.drew ?_) | (refine Below.alloc ?_ (by first | exact Nat.le_refl _ | (simp; done) | omega | (simp; omega)) _) | (refine then_ ?_ (by with_reducible assumption)) | assumption | (refine then_ ?_ (by assumption))))
  have zW : w.heap.size < W.heap.size := by rw [hWe]; simp
  have q0 : W.cell? ⟨w.heap.size, 0, none⟩ = some (.int .i64 s) := by rw [hWe]; simp [go_sem]
  have q1 : W.cell? ⟨w.heap.size, 1, none⟩ = some (.slice A n c) := by rw [hWe]; simp [go_sem]
  have ra := ha.step hW
  rw [← hWe]
  clear hWe
  go_loopw [3, 4, 5] (fun o i _ wr => ∃ k : Nat, k ≤ 4 ∧ i = .int .i64 k ∧ o = .int .i64 (lastUp (okA s xs) (-1) k) ∧ Below W.heap.size W wr) (fun _ i _ _ => 4 - (intOf i).toNat)
  case atStart => exact ⟨0, by omega, rfl, rfl, Below.refl _ _⟩
  case round =>
    obtain ⟨k, hk, rfl, rfl, hw⟩ := hrel
    by_cases hlt : k < 4
    · have hki : (k : Int) ≤ 3 := by omega
      have hk0 : (0 : Int) ≤ (k : Int) := by omega
      have d0 := keepC q0 hw
      have d1 := keepC q1 hw
      have ra1 := ra.step hw
      obtain ⟨l, hl⟩ : ∃ l, l = symsL (k : Int) := ⟨_, rfl⟩
      have HL := Lib.hid hl
      have h8 : l.length ≤ 8 := by rw [hl]; exact symsUp_len _ _
      have ks := fun w => specSymsOf_any (k : Int) w
      rw [← hl] at ks
      have KS := Lib.hid ks
      clear ks hl q0 q1
      go_wp2_with fail
      refine (specIsPicture_any s A n c xs _ hn ra1).mono ?_
      rintro e w5 ⟨rfl, hb5⟩
      have e0 := keepC d0 hb5
      have e1 := keepC d1 hb5
      have ra2 := ra1.step hb5
      have hw5 := then_ hw hb5
      clear d0 d1
      go_wp2_with fail
      refine (KS.out _).mono ?_
      rintro e w6 ⟨H, hc6, rfl, ho6, hb6⟩
      have d0 := keepC e0 hb6
      have d1 := keepC e1 hb6
      have ra3 := ra2.step hb6
      have r6 := Rd.of_own symC_len rfl ho6
      have hw6 := then_ hw5 hb6
      clear e0 e1 ho6
      go_wp2_with fail
      go_loopw [5, 17] (fun a i wr => ∃ j : Nat, j ≤ l.length ∧ i = .int .i64 j ∧ a = .bool (allB s xs l j) ∧ Below w6.heap.size w6 wr) (fun _ i _ => l.length - (intOf i).toNat)
      case atStart => exact ⟨0, by omega, rfl, by rw [allB_zero], Below.refl _ _⟩
      case round =>
        obtain ⟨j, hj, rfl, rfl, hx⟩ := hrel
        by_cases hlj : j < l.length
        · obtain ⟨bb, off, t, f, rfl, hbl, hxg, c0, c1⟩ := (r6.below hx).sym hlj
          have hji : (j : Int) < (l.length : Int) := by omega
          have hj0 : (0 : Int) ≤ (j : Int) := by omega
          have S := Lib.hid (allB_succ (s := s) (xs := xs) hxg)
          have e0 := keepC d0 hx
          have e1 := keepC d1 hx
          have ra4 := ra3.step hx
          clear hxg
          go_wp2_with fail
          obtain ⟨V, hVe⟩ : ∃ V, V = wr.alloc (Obj.cells #[.int .i64 t, .bool f] 52) := ⟨_, rfl⟩
          have hV : Below wr.heap.size wr V := by rw [hVe]; (repeat (first | with_reducible assumption | exact Below.refl _ _ | (refine Below.setCell ?_ (by first | exact Nat.le_refl _ | (simp; done) | omega | (simp; omega)) _) | (refine below_drewN ?_ _) | (refine Below.drew ?_) | (refine Below.alloc ?_ (by first | exact Nat.le_refl _ | (simp; done) | omega | (simp; omega)) _) | (refine then_ ?_ (by with_reducible assumption)) | assumption | (refine then_ ?_ (by assumption))))
          have zV : wr.heap.size < V.heap.size := by rw [hVe]; simp
          have v0 : V.cell? ⟨wr.heap.size, 0, none⟩ = some (.int .i64 t) := by rw [hVe]; simp [go_sem]
          have v1 : V.cell? ⟨wr.heap.size, 1, none⟩ = some (.bool f) := by rw [hVe]; simp [go_sem]
          rw [← hVe]
          have f0 := keepC e0 hV
          have f1 := keepC e1 hV
          have lf := World.block_lt_of_cell? _ _ f0
          dsimp only at lf
          have ra5 := ra4.step hV
          have hV6 := then_ hx hV
          obtain ⟨Q, hQ⟩ : ∃ Q, Q = actL t f s xs := ⟨_, rfl⟩
          have hr : keepB s xs (t, f) = sameP Q.1 Q.2 s xs := by rw [hQ]; rfl
          have hm : Q.2.length ≤ maxLen := by rw [hQ]; have := actL_len t f s xs; have := ha.1; omega
          have ki := fun A c w h => specActPicture_any t f s A n c xs w hn h
          rw [← hQ] at ki
          have KI := Lib.hid ki
          have R := Lib.hid hr
          clear hVe ki hQ hr c0 c1 e0 e1
          obtain ⟨s2, ys⟩ := Q
          dsimp only at hm KI R
          cases hq : allB s xs l j
          · go_region_law (fail)
            all_goals
              go_wp2
              go_roundw
              case rel => exact ⟨j + 1, by omega, by go_num, by rw [S.out, hq]; rfl, by (repeat (first | with_reducible assumption | exact Below.refl _ _ | (refine Below.setCell ?_ (by first | exact Nat.le_refl _ | (simp; done) | omega | (simp; omega)) _) | (refine below_drewN ?_ _) | (refine Below.drew ?_) | (refine Below.alloc ?_ (by first | exact Nat.le_refl _ | (simp; done) | omega | (simp; omega)) _) | (refine then_ ?_ (by with_reducible assumption)) | assumption | (refine then_ ?_ (by assumption))))⟩
              case measure => simp [intOf]; omega
          · go_region_held3 (fun w' => (∀ b o, b < V.heap.size → w'.cell? ⟨b, o, none⟩ = V.cell? ⟨b, o, none⟩) ∧ Below V.heap.size V w') (first | assumption | exact startS _ | exact stepS (by assumption) (by assumption)) (first | (go_at_call 33; refine (KI.out _ _ _ (ra5.step ?_)).mono ?_; (repeat (first | with_reducible assumption | exact Below.refl _ _ | (refine Below.setCell ?_ (by first | exact Nat.le_refl _ | (simp; done) | omega | (simp; omega)) _) | (refine below_drewN ?_ _) | (refine Below.drew ?_) | (refine Below.alloc ?_ (by first | exact Nat.le_refl _ | (simp; done) | omega | (simp; omega)) _) | (refine then_ ?_ (by with_reducible assumption)) | assumption | (refine then_ ?_ (by assumption)))); rintro e w3 ⟨B2, d2, rfl, ho2, hb3⟩; have r2 := Rd.of_own colC_len rfl ho2; clear ho2) | (go_at_call 90; refine (specSamePicture_any _ _ _ _ _ _ _ _ ys xs _ hm hn (r2.step ?_) (ra5.step ?_)).mono ?_; (repeat (first | with_reducible assumption | exact Below.refl _ _ | (refine Below.setCell ?_ (by first | exact Nat.le_refl _ | (simp; done) | omega | (simp; omega)) _) | (refine below_drewN ?_ _) | (refine Below.drew ?_) | (refine Below.alloc ?_ (by first | exact Nat.le_refl _ | (simp; done) | omega | (simp; omega)) _) | (refine then_ ?_ (by with_reducible assumption)) | assumption | (refine then_ ?_ (by assumption)))); (repeat (first | with_reducible assumption | exact Below.refl _ _ | (refine Below.setCell ?_ (by first | exact Nat.le_refl _ | (simp; done) | omega | (simp; omega)) _) | (refine below_drewN ?_ _) | (refine Below.drew ?_) | (refine Below.alloc ?_ (by first | exact Nat.le_refl _ | (simp; done) | omega | (simp; omega)) _) | (refine then_ ?_ (by with_reducible assumption)) | assumption | (refine then_ ?_ (by assumption)))); rintro e w4 ⟨rfl, hb4⟩))
            have hS := ‹_ ∧ Below V.heap.size V w4›
            have hB := then_ hV6 hS.2
            go_wp2
            go_roundw
            case rel => exact ⟨j + 1, by omega, by go_num, by rw [S.out, hq, R.out]; rfl, hB⟩
            case measure => simp [intOf]; omega
        · obtain rfl : j = l.length := by omega
          have hWk := then_ hw6 hx
          have S : allB s xs l l.length = okA s xs k := by unfold allB okA; rw [List.take_length, HL.out]
          rw [S]
          have e0 := keepC d0 hx
          cases hq : okA s xs k
          · have T := Lib.hid (lastUp_no (ok := okA s xs) (st := -1) (k := k) hq)
            go_wp2
            go_roundw
            case rel => exact ⟨k + 1, by omega, by go_num, by rw [T.out], hWk⟩
            case measure => simp [intOf]; omega
          · have T := Lib.hid (lastUp_yes (ok := okA s xs) (st := -1) (k := k) hq)
            go_wp2
            go_roundw
            case rel => exact ⟨k + 1, by omega, by go_num, by rw [T.out], hWk⟩
            case measure => simp [intOf]; omega
    · obtain rfl : k = 4 := by omega
      go_wp2
      go_ret
      exact ⟨rfl, then_ hW hw⟩
end Go.Proofs.Ythlkpopmoodmgaa
