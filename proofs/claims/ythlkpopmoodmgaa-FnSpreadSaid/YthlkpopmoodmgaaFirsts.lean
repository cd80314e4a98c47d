
/- FirstCells, both versions. -/
import Derived.Test.YthlkpopmoodmgaaFirst
import Derived.Test.YthlkpopmoodmgaaOwn
namespace Go.Proofs.Ythlkpopmoodmgaa
open Go.RowKit
attribute [local go_sem] run_store_float run_store_complex

def firstsUp (kind size : Int) (m : Nat) : List Int := ((List.range m).map (fun (j : Nat) => (j : Int))).filter (fun c => firstI kind size c == c)
def firstsL (kind size : Int) : List Int := if inB kind 0 3 && inB size 1 8 then firstsUp kind size (size * size).toNat else []
theorem firstsUp_succ (kind size : Int) (m : Nat) : firstsUp kind size (m + 1) = firstsUp kind size m ++ if (firstI kind size m == (m : Int)) then [(m : Int)] else [] := by
  unfold firstsUp
  rw [List.range_succ, List.map_append, List.filter_append]
  simp [List.filter_cons]
theorem firstsUp_yes {kind size : Int} {m : Nat} (h : (firstI kind size m == (m : Int)) = true) : firstsUp kind size (m + 1) = firstsUp kind size m ++ [(m : Int)] := by rw [firstsUp_succ, if_pos h]
theorem firstsUp_no {kind size : Int} {m : Nat} (h : (firstI kind size m == (m : Int)) = false) : firstsUp kind size (m + 1) = firstsUp kind size m := by rw [firstsUp_succ, if_neg (by simp [h]), List.append_nil]
theorem firstsUp_len (kind size : Int) (m : Nat) : (firstsUp kind size m).length ≤ m := by
  unfold firstsUp
  exact Nat.le_trans (List.length_filter_le _ _) (by simp)
theorem infoInt : (Try.prog.info? 3).map (fun i => (i.zero, i.size, i.bytes)) = some (some (.int .i64 0), 1, 8) := by kernel_rfl

set_option maxRecDepth 100000 in
set_option maxHeartbeats 4000000 in
theorem firstCells_any (kind size : Int) (w : World) :
    Calls Try.prog 20 #[.int .i64 kind, .int .i64 size] w fun e w' => ∃ A c, e = .returned (.slice A (firstsL kind size).length c) ∧ w'.ownsRow w.heap.size 3 1 (.slice A (firstsL kind size).length c) (firstsL kind size).length (flat intC (firstsL kind size)) ∧ Below w.heap.size w w' := by
  obtain ⟨i0, hi, hz0, hz1, hz2⟩ := info_parts infoInt
  have r : firstsL kind size = if inB kind 0 3 && inB size 1 8 then firstsUp kind size (size * size).toNat else [] := rfl
  cases h1 : inB kind 0 3
  · rw [h1] at r
    have R := Lib.hid (show firstsL kind size = [] from r)
    clear r
    go_enter Try.func20, Try.ntmps20
    go_wp2_with (first | (go_at_call 66; refine (isKind_any _ _).mono ?_; rintro e w' ⟨rfl, rfl⟩; simp only [h1]) | (go_at_call 60; refine (within_any _ _ _ _).mono ?_; rintro e w' ⟨rfl, rfl⟩; simp only [h2]))
    go_ret
    rw [R.out]
    exact ⟨_, _, rfl, ⟨rfl, .inl ⟨rfl, rfl⟩⟩, by (repeat (first | with_reducible assumption | exact Below.refl _ _ | (refine Below.setCell ?_ (by first | exact Nat.le_refl _ | (simp; done) | omega | (simp; omega)) _) | (refine below_drewN ?_ _) | (refine Below.drew ?_) | (refine Below.alloc ?_ (by first | exact Nat.le_refl _ | (simp; done) | omega | (simp; omega)) _) | (refine then_ ?_ (by with_reducible assumption)) | assumption | (refine then_ ?_ (by assumption))))⟩
  · cases h2 : inB size 1 8
    · rw [h1, h2] at r
      have R := Lib.hid (show firstsL kind size = [] from r)
      clear r
      go_enter Try.func20, Try.ntmps20
      go_wp2_with (first | (go_at_call 66; refine (isKind_any _ _).mono ?_; rintro e w' ⟨rfl, rfl⟩; simp only [h1]) | (go_at_call 60; refine (within_any _ _ _ _).mono ?_; rintro e w' ⟨rfl, rfl⟩; simp only [h2]))
      go_ret
      rw [R.out]
      exact ⟨_, _, rfl, ⟨rfl, .inl ⟨rfl, rfl⟩⟩, by (repeat (first | with_reducible assumption | exact Below.refl _ _ | (refine Below.setCell ?_ (by first | exact Nat.le_refl _ | (simp; done) | omega | (simp; omega)) _) | (refine below_drewN ?_ _) | (refine Below.drew ?_) | (refine Below.alloc ?_ (by first | exact Nat.le_refl _ | (simp; done) | omega | (simp; omega)) _) | (refine then_ ?_ (by with_reducible assumption)) | assumption | (refine then_ ?_ (by assumption))))⟩
    · rw [h1, h2] at r
      have R0 : firstsL kind size = firstsUp kind size (size * size).toNat := r
      clear r
      obtain ⟨b1, b2⟩ := inB_true h2
      have b3 : size * size ≤ 8 * 8 := Int.mul_le_mul b2 b2 (by omega) (by omega)
      have b4 : 1 * 1 ≤ size * size := Int.mul_le_mul b1 b1 (by omega) (by omega)
      obtain ⟨q, hq⟩ := Int.eq_ofNat_of_zero_le (show 0 ≤ size * size by omega)
      rw [hq, Int.toNat_natCast] at R0
      have R := Lib.hid R0
      have HQ := Lib.hid hq
      have hq64 : q ≤ 64 := by omega
      clear R0 hq
      go_enter Try.func20, Try.ntmps20
      go_wp2_with (first | (go_at_call 66; refine (isKind_any _ _).mono ?_; rintro e w' ⟨rfl, rfl⟩; simp only [h1]) | (go_at_call 60; refine (within_any _ _ _ _).mono ?_; rintro e w' ⟨rfl, rfl⟩; simp only [h2]))
      have o0 := World.ownsRow_lit (e := 3) (size := 1) (base := w.heap.size) w #[] 0 (Nat.le_refl _) (by simp [maxLen]) rfl
      have O0 := Lib.hid o0
      clear o0
      go_loopw [5, 19] (fun v i wr => ∃ k : Nat, k ≤ q ∧ i = .int .i64 k ∧ (∃ A c, v = .slice A (firstsUp kind size k).length c) ∧ wr.ownsRow w.heap.size 3 1 v (firstsUp kind size k).length (flat intC (firstsUp kind size k)) ∧ Below w.heap.size w wr) (fun _ i _ => q - (intOf i).toNat)
      case atStart => exact ⟨0, Nat.zero_le _, rfl, ⟨_, _, rfl⟩, O0.out, by (repeat (first | with_reducible assumption | exact Below.refl _ _ | (refine Below.setCell ?_ (by first | exact Nat.le_refl _ | (simp; done) | omega | (simp; omega)) _) | (refine below_drewN ?_ _) | (refine Below.drew ?_) | (refine Below.alloc ?_ (by first | exact Nat.le_refl _ | (simp; done) | omega | (simp; omega)) _) | (refine then_ ?_ (by with_reducible assumption)) | assumption | (refine then_ ?_ (by assumption))))⟩
      case round =>
        obtain ⟨k, hk, rfl, ⟨A1, c1, rfl⟩, hown, hw⟩ := hrel
        have OW := Lib.hid hown
        have LN := firstsUp_len kind size k
        have hsz := hw.size
        clear hown
        have hqe := HQ.out
        by_cases hlt : k < q
        · have hki : (k : Int) < size * size := by omega
          have hk0 : (0 : Int) ≤ (k : Int) := by omega
          clear hqe
          cases hf : (firstI kind size k == (k : Int))
          · have S := Lib.hid (firstsUp_no hf)
            go_wp2_with (go_at_call 67; refine (firstCell_any _ _ _ _).mono ?_; rintro e w2 ⟨rfl, hb2⟩)
            go_roundw
            case rel =>
              refine ⟨k + 1, by omega, by go_num, ?_⟩
              rw [S.out]
              exact ⟨⟨_, _, rfl⟩, owns_below OW.out hb2, by (repeat (first | with_reducible assumption | exact Below.refl _ _ | (refine Below.setCell ?_ (by first | exact Nat.le_refl _ | (simp; done) | omega | (simp; omega)) _) | (refine below_drewN ?_ _) | (refine Below.drew ?_) | (refine Below.alloc ?_ (by first | exact Nat.le_refl _ | (simp; done) | omega | (simp; omega)) _) | (refine then_ ?_ (by with_reducible assumption)) | assumption | (refine then_ ?_ (by assumption))))⟩
            case measure => simp [intOf]; omega
          · have S := Lib.hid (firstsUp_yes hf)
            go_wp2_with (first
              | (go_at_call 67; refine (firstCell_any _ _ _ _).mono ?_; rintro e w2 ⟨rfl, hb2⟩; have hW2 := then_ hw hb2; have OW2 := Lib.hid (owns_below OW.out hb2); have hs2 := hb2.size; clear hb2)
              | (at_builtin; refine wpList_append_own_at _ rfl _ _ 33 rfl w.heap.size 3 i0 (.int .i64 0) 1 8 Try.underlying33 hi hz0 hz1 hz2 rfl (by decide) _ _ _ rfl (OW2.out.alloc _) ⟨w2.heap.size, 0, none⟩ 1 1 [.int .i64 (k : Int)] rfl rfl ?c13 ?c23 ?c33 ?c43 ?c53 ?_; (case c13 => exact World.news_of_block (cs := #[.int .i64 (k : Int)]) (t := 3) (fr := (0, 0)) (heap_alloc_new w2 _)); (case c23 => simp [Value.oneCell']); (case c33 => unfold maxLen; omega); (case c43 => omega); (case c53 => (have := Below.size hW2; simp only [World.size_alloc]; omega)); intro v3 w3 hown3 hg3 hne3 hat3; simp only [World.size_alloc] at hat3; have GB3 := Lib.hid hg3; have OW3 := Lib.hid hown3; have BW3 := below_append hW2 OW2.out hg3; have NB3 := Lib.hid hat3; clear hown3 hg3 hne3 hat3))
            go_roundw
            case rel =>
              obtain ⟨A3, c3, rfl⟩ := owns_slice OW3.out
              refine ⟨k + 1, by omega, by go_num, ?_⟩
              rw [S.out, List.length_append, flat_append]
              exact ⟨⟨_, _, rfl⟩, OW3.out, BW3⟩
            case measure => simp [intOf]; omega
        · obtain rfl : k = q := by omega
          have hge : ¬ (k : Int) < size * size := by omega
          clear hqe
          go_wp2
          go_ret
          rw [R.out]
          exact ⟨_, _, rfl, OW.out, hw⟩

set_option maxRecDepth 100000 in
set_option maxHeartbeats 4000000 in
theorem specFirstCells_any (kind size : Int) (w : World) :
    Calls Try.prog 19 #[.int .i64 kind, .int .i64 size] w fun e w' => ∃ A c, e = .returned (.slice A (firstsL kind size).length c) ∧ w'.ownsRow w.heap.size 3 1 (.slice A (firstsL kind size).length c) (firstsL kind size).length (flat intC (firstsL kind size)) ∧ Below w.heap.size w w' := by
  obtain ⟨i0, hi, hz0, hz1, hz2⟩ := info_parts infoInt
  have r : firstsL kind size = if inB kind 0 3 && inB size 1 8 then firstsUp kind size (size * size).toNat else [] := rfl
  cases h1 : inB kind 0 3
  · rw [h1] at r
    have R := Lib.hid (show firstsL kind size = [] from r)
    clear r
    go_enter Try.func19, Try.ntmps19
    go_wp2_with (first | (go_at_call 57; refine (l1In_any _ _ _ _).mono ?_; rintro e w' ⟨rfl, rfl⟩; (try simp only [h1]); (try simp only [h2])))
    go_ret
    rw [R.out]
    exact ⟨_, _, rfl, World.ownsRow_lit (e := 3) (size := 1) (base := w.heap.size) w #[] 0 (Nat.le_refl _) (by simp [maxLen]) rfl, by (repeat (first | with_reducible assumption | exact Below.refl _ _ | (refine Below.setCell ?_ (by first | exact Nat.le_refl _ | (simp; done) | omega | (simp; omega)) _) | (refine below_drewN ?_ _) | (refine Below.drew ?_) | (refine Below.alloc ?_ (by first | exact Nat.le_refl _ | (simp; done) | omega | (simp; omega)) _) | (refine then_ ?_ (by with_reducible assumption)) | assumption | (refine then_ ?_ (by assumption))))⟩
  · cases h2 : inB size 1 8
    · rw [h1, h2] at r
      have R := Lib.hid (show firstsL kind size = [] from r)
      clear r
      go_enter Try.func19, Try.ntmps19
      go_wp2_with (first | (go_at_call 57; refine (l1In_any _ _ _ _).mono ?_; rintro e w' ⟨rfl, rfl⟩; (try simp only [h1]); (try simp only [h2])))
      go_ret
      rw [R.out]
      exact ⟨_, _, rfl, World.ownsRow_lit (e := 3) (size := 1) (base := w.heap.size) w #[] 0 (Nat.le_refl _) (by simp [maxLen]) rfl, by (repeat (first | with_reducible assumption | exact Below.refl _ _ | (refine Below.setCell ?_ (by first | exact Nat.le_refl _ | (simp; done) | omega | (simp; omega)) _) | (refine below_drewN ?_ _) | (refine Below.drew ?_) | (refine Below.alloc ?_ (by first | exact Nat.le_refl _ | (simp; done) | omega | (simp; omega)) _) | (refine then_ ?_ (by with_reducible assumption)) | assumption | (refine then_ ?_ (by assumption))))⟩
    · rw [h1, h2] at r
      have R0 : firstsL kind size = firstsUp kind size (size * size).toNat := r
      clear r
      obtain ⟨b1, b2⟩ := inB_true h2
      have b3 : size * size ≤ 8 * 8 := Int.mul_le_mul b2 b2 (by omega) (by omega)
      have b4 : 1 * 1 ≤ size * size := Int.mul_le_mul b1 b1 (by omega) (by omega)
      obtain ⟨q, hq⟩ := Int.eq_ofNat_of_zero_le (show 0 ≤ size * size by omega)
      rw [hq, Int.toNat_natCast] at R0
      have R := Lib.hid R0
      have HQ := Lib.hid hq
      have hq64 : q ≤ 64 := by omega
      clear R0 hq
      go_enter Try.func19, Try.ntmps19
      go_wp2_with (first | (go_at_call 57; refine (l1In_any _ _ _ _).mono ?_; rintro e w' ⟨rfl, rfl⟩; (try simp only [h1]); (try simp only [h2])))
      have o0 := World.ownsRow_lit (e := 3) (size := 1) (base := w.heap.size) w #[] 0 (Nat.le_refl _) (by simp [maxLen]) rfl
      have O0 := Lib.hid o0
      clear o0
      go_loopw [5, 6] (fun v i wr => ∃ k : Nat, k ≤ q ∧ i = .int .i64 k ∧ (∃ A c, v = .slice A (firstsUp kind size k).length c) ∧ wr.ownsRow w.heap.size 3 1 v (firstsUp kind size k).length (flat intC (firstsUp kind size k)) ∧ Below w.heap.size w wr) (fun _ i _ => q - (intOf i).toNat)
      case atStart => exact ⟨0, Nat.zero_le _, rfl, ⟨_, _, rfl⟩, O0.out, by (repeat (first | with_reducible assumption | exact Below.refl _ _ | (refine Below.setCell ?_ (by first | exact Nat.le_refl _ | (simp; done) | omega | (simp; omega)) _) | (refine below_drewN ?_ _) | (refine Below.drew ?_) | (refine Below.alloc ?_ (by first | exact Nat.le_refl _ | (simp; done) | omega | (simp; omega)) _) | (refine then_ ?_ (by with_reducible assumption)) | assumption | (refine then_ ?_ (by assumption))))⟩
      case round =>
        obtain ⟨k, hk, rfl, ⟨A1, c1, rfl⟩, hown, hw⟩ := hrel
        have OW := Lib.hid hown
        have LN := firstsUp_len kind size k
        have hsz := hw.size
        clear hown
        have hqe := HQ.out
        by_cases hlt : k < q
        · have hki : (k : Int) < size * size := by omega
          have hk0 : (0 : Int) ≤ (k : Int) := by omega
          clear hqe
          cases hf : (firstI kind size k == (k : Int))
          · have S := Lib.hid (firstsUp_no hf)
            go_wp2_with (go_at_call 65; refine (l4First_any _ _ _ _).mono ?_; rintro e w2 ⟨rfl, hb2⟩)
            go_roundw
            case rel =>
              refine ⟨k + 1, by omega, by go_num, ?_⟩
              rw [S.out]
              exact ⟨⟨_, _, rfl⟩, owns_below OW.out hb2, by (repeat (first | with_reducible assumption | exact Below.refl _ _ | (refine Below.setCell ?_ (by first | exact Nat.le_refl _ | (simp; done) | omega | (simp; omega)) _) | (refine below_drewN ?_ _) | (refine Below.drew ?_) | (refine Below.alloc ?_ (by first | exact Nat.le_refl _ | (simp; done) | omega | (simp; omega)) _) | (refine then_ ?_ (by with_reducible assumption)) | assumption | (refine then_ ?_ (by assumption))))⟩
            case measure => simp [intOf]; omega
          · have S := Lib.hid (firstsUp_yes hf)
            go_wp2_with (first
              | (go_at_call 65; refine (l4First_any _ _ _ _).mono ?_; rintro e w2 ⟨rfl, hb2⟩; have hW2 := then_ hw hb2; have OW2 := Lib.hid (owns_below OW.out hb2); have hs2 := hb2.size; clear hb2)
              | (at_builtin; refine wpList_append_own_at _ rfl _ _ 33 rfl w.heap.size 3 i0 (.int .i64 0) 1 8 Try.underlying33 hi hz0 hz1 hz2 rfl (by decide) _ _ _ rfl (OW2.out.alloc _) ⟨w2.heap.size, 0, none⟩ 1 1 [.int .i64 (k : Int)] rfl rfl ?c13 ?c23 ?c33 ?c43 ?c53 ?_; (case c13 => exact World.news_of_block (cs := #[.int .i64 (k : Int)]) (t := 3) (fr := (0, 0)) (heap_alloc_new w2 _)); (case c23 => simp [Value.oneCell']); (case c33 => unfold maxLen; omega); (case c43 => omega); (case c53 => (have := Below.size hW2; simp only [World.size_alloc]; omega)); intro v3 w3 hown3 hg3 hne3 hat3; simp only [World.size_alloc] at hat3; have GB3 := Lib.hid hg3; have OW3 := Lib.hid hown3; have BW3 := below_append hW2 OW2.out hg3; have NB3 := Lib.hid hat3; clear hown3 hg3 hne3 hat3))
            go_roundw
            case rel =>
              obtain ⟨A3, c3, rfl⟩ := owns_slice OW3.out
              refine ⟨k + 1, by omega, by go_num, ?_⟩
              rw [S.out, List.length_append, flat_append]
              exact ⟨⟨_, _, rfl⟩, OW3.out, BW3⟩
            case measure => simp [intOf]; omega
        · obtain rfl : k = q := by omega
          have hge : ¬ (k : Int) < size * size := by omega
          clear hqe
          go_wp2
          go_ret
          rw [R.out]
          exact ⟨_, _, rfl, OW.out, hw⟩

end Go.Proofs.Ythlkpopmoodmgaa
