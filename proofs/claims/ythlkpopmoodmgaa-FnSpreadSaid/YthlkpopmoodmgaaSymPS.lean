
/- SymsOfPicture, the reference's. -/
import Derived.Test.YthlkpopmoodmgaaSymP
import Derived.Test.YthlkpopmoodmgaaReg
import Derived.Deep.RegionLaw
namespace Go.Proofs.Ythlkpopmoodmgaa
open Go.RowKit
attribute [local go_sem] run_store_float run_store_complex

/-- the first m symmetries that are kept -/
def keptUp (s : Int) (xs : List Col) (m : Nat) : List (Int × Bool) := ((List.range m).map sym8).filter (fun g => pictB s xs && keepB s xs g)
theorem keptUp_succ (s : Int) (xs : List Col) (m : Nat) : keptUp s xs (m + 1) = keptUp s xs m ++ if (pictB s xs && keepB s xs (sym8 m)) then [sym8 m] else [] := by
  unfold keptUp
  rw [List.range_succ, List.map_append, List.filter_append]
  simp [List.filter_cons]
theorem keptUp_yes {s : Int} {xs : List Col} {m : Nat} (h : (pictB s xs && keepB s xs (sym8 m)) = true) : keptUp s xs (m + 1) = keptUp s xs m ++ [sym8 m] := by rw [keptUp_succ, if_pos h]
theorem keptUp_no {s : Int} {xs : List Col} {m : Nat} (h : (pictB s xs && keepB s xs (sym8 m)) = false) : keptUp s xs (m + 1) = keptUp s xs m := by rw [keptUp_succ, if_neg (by simp [h]), List.append_nil]
theorem keptUp_len (s : Int) (xs : List Col) (m : Nat) : (keptUp s xs m).length ≤ m := by
  unfold keptUp
  exact Nat.le_trans (List.length_filter_le _ _) (by simp)
theorem symsL_3 : symsL 3 = (List.range 8).map sym8 := by decide
theorem keptUp_8 (s : Int) (xs : List Col) : keptUp s xs 8 = symsP s xs := by
  unfold keptUp symsP
  rw [← symsL_3]
  cases pictB s xs
  · simp
  · simp

set_option maxRecDepth 100000 in
set_option maxHeartbeats 8000000 in
theorem specSymsOfPicture_any (s : Int) (A : Option Addr) (n c : Nat) (xs : List Col) (w : World) (hn : n ≤ maxLen) (ha : Rd colC 3 w w.heap.size A n xs) :
    Calls Try.prog 50 #[.agg #[.int .i64 s, .slice A n c]] w fun e w' => ∃ B d, e = .returned (.slice B (symsP s xs).length d) ∧ w'.ownsRow w.heap.size 52 2 (.slice B (symsP s xs).length d) (symsP s xs).length (flat symC (symsP s xs)) ∧ Below w.heap.size w w' := by
  obtain ⟨i0, hi, hz0, hz1, hz2⟩ := info_parts infoSym
  go_enter Try.func50, Try.ntmps50
  go_wp2_with fail
  refine (l1All_any _).mono ?_
  rintro e w1 ⟨G, cG, rfl, ho1, hb1⟩
  obtain ⟨ga, rfl⟩ : ∃ ga, G = some ⟨ga, 0, none⟩ := by
    rcases ho1.2 with ⟨_, h0⟩ | ⟨ga, _, _, h0, _⟩
    · omega
    · injection h0 with h1
      exact ⟨ga, h1⟩
  have r1 : Rd symC 2 w1 w1.heap.size (some ⟨ga, 0, none⟩) 8 allSyms := Rd.of_own symC_len (by rfl) ho1
  obtain ⟨g1, g2⟩ := ho1.lt ga rfl
  simp only [World.size_alloc] at g1
  have o0 : World.ownsRow _ w.heap.size 52 2 _ 0 [] := owns_below (World.ownsRow_lit (base := w.heap.size) (w.alloc (Obj.cells #[.int .i64 s, .slice A n c] 29)) #[] 0 (by simp) (by simp [maxLen]) rfl) hb1
  have hB1 : Below w.heap.size w w1 := by (repeat (first | with_reducible assumption | exact Below.refl _ _ | (refine Below.setCell ?_ (by first | exact Nat.le_refl _ | (simp; done) | omega | (simp; omega)) _) | (refine below_drewN ?_ _) | (refine Below.drew ?_) | (refine Below.alloc ?_ (by first | exact Nat.le_refl _ | (simp; done) | omega | (simp; omega)) _) | (refine then_ ?_ (by with_reducible assumption)) | assumption | (refine then_ ?_ (by assumption))))
  have b0 : w1.cell? ⟨w.heap.size, 0, none⟩ = some (.int .i64 s) := keepC (by simp [go_sem]) hb1
  have b1 : w1.cell? ⟨w.heap.size, 1, none⟩ = some (.slice A n c) := keepC (by simp [go_sem]) hb1
  have z1 := hb1.size
  simp only [World.size_alloc] at z1
  have hga : w.heap.size < ga := by omega
  clear hb1 ho1
  simp only [World.size_alloc] at o0
  have O0 := Lib.hid o0
  clear o0
  go_wp2_with fail
  go_loopw [3, 9] (fun v i wr => ∃ k : Nat, k ≤ 8 ∧ i = .int .i64 k ∧ (∃ A c, v = .slice A (keptUp s xs k).length c) ∧ wr.ownsRow w.heap.size 52 2 v (keptUp s xs k).length (flat symC (keptUp s xs k)) ∧ Off v ga ∧ Off v w.heap.size ∧ Rd symC 2 wr w1.heap.size (some ⟨ga, 0, none⟩) 8 allSyms ∧ w1.heap.size ≤ wr.heap.size ∧ wr.cell? ⟨w.heap.size, 0, none⟩ = some (.int .i64 s) ∧ wr.cell? ⟨w.heap.size, 1, none⟩ = some (.slice A n c) ∧ Below w.heap.size w wr) (fun _ i _ => 8 - (intOf i).toNat)
  case atStart => exact ⟨0, by omega, rfl, ⟨_, _, rfl⟩, O0.out, by unfold Off Value.ownBlock; simp; omega, by unfold Off Value.ownBlock; simp, r1, Nat.le_refl _, b0, b1, hB1⟩
  case round =>
    clear b0 b1 hB1 O0
    obtain ⟨k, hk, rfl, ⟨A1, c1, rfl⟩, hown, hoff, hofp, hrd, hsz, b0, b1, hw⟩ := hrel
    have OW := Lib.hid hown
    have OFF := Lib.hid hoff
    have OFP := Lib.hid hofp
    have RD := Lib.hid hrd
    clear hown hoff hofp r1
    by_cases hlt : k < 8
    · obtain ⟨b, off, t, f, e, _, hx, h0, h1⟩ := hrd.sym hlt
      injection e with e
      injection e with e1 e2
      subst e1 e2
      rw [allSyms_at hlt] at hx
      have E := Lib.hid hx
      clear hx hrd
      simp only [Nat.zero_add] at h0 h1
      have hk0 : (0 : Int) ≤ (k : Int) := by omega
      have hk8 : (k : Int) < 8 := by omega
      have LN := keptUp_len s xs k
      have ra := ha.step hw
      go_wp2_with fail
      obtain ⟨W, hWe⟩ : ∃ W, W = wr.alloc (Obj.cells #[.int .i64 t, .bool f] 52) := ⟨_, rfl⟩
      have hW : Below wr.heap.size wr W := by rw [hWe]; (repeat (first | with_reducible assumption | exact Below.refl _ _ | (refine Below.setCell ?_ (by first | exact Nat.le_refl _ | (simp; done) | omega | (simp; omega)) _) | (refine below_drewN ?_ _) | (refine Below.drew ?_) | (refine Below.alloc ?_ (by first | exact Nat.le_refl _ | (simp; done) | omega | (simp; omega)) _) | (refine then_ ?_ (by with_reducible assumption)) | assumption | (refine then_ ?_ (by assumption))))
      have zW : wr.heap.size < W.heap.size := by rw [hWe]; simp
      have q0 : W.cell? ⟨wr.heap.size, 0, none⟩ = some (.int .i64 t) := by rw [hWe]; simp [go_sem]
      have q1 : W.cell? ⟨wr.heap.size, 1, none⟩ = some (.bool f) := by rw [hWe]; simp [go_sem]
      rw [← hWe]
      clear hWe
      have d0 := keepC b0 hW
      have d1 := keepC b1 hW
      have ld := World.block_lt_of_cell? _ _ d0
      dsimp only at ld
      have ra := ra.step hW
      have OWW := Lib.hid (owns_below OW.out hW)
      have RDW := Lib.hid (Rd.keep RD.out (fun p hp => hW.cell (p := p) (by omega)))
      have hwW := then_ hw hW
      clear b0 b1 h0 h1
      obtain ⟨Q, hQ⟩ : ∃ Q, Q = actL t f s xs := ⟨_, rfl⟩
      have hr : keepB s xs (t, f) = sameP Q.1 Q.2 s xs := by rw [hQ]; rfl
      have hm : Q.2.length ≤ maxLen := by rw [hQ]; have := actL_len t f s xs; have := ha.1; omega
      have ki := fun A c w h => specActPicture_any t f s A n c xs w hn h
      rw [← hQ] at ki
      have KI := Lib.hid ki
      have R := Lib.hid hr
      clear ki hQ hr
      obtain ⟨s2, ys⟩ := Q
      dsimp only at hm KI R
      cases h2 : pictB s xs
      · have S := Lib.hid (keptUp_no (s := s) (xs := xs) (m := k) (by rw [h2]; rfl))
        go_region_law (go_simp; go_at_call 15; refine (specIsPicture_any s A n c xs _ hn (ra.step ?_)).mono ?_; (repeat (first | with_reducible assumption | exact Below.refl _ _ | (refine Below.setCell ?_ (by first | exact Nat.le_refl _ | (simp; done) | omega | (simp; omega)) _) | (refine below_drewN ?_ _) | (refine Below.drew ?_) | (refine Below.alloc ?_ (by first | exact Nat.le_refl _ | (simp; done) | omega | (simp; omega)) _) | (refine then_ ?_ (by with_reducible assumption)) | assumption | (refine then_ ?_ (by assumption)))); rintro e w2 ⟨rfl, hb2⟩; simp only [h2])
        all_goals
          have hB := (show Below W.heap.size W w2 by (repeat (first | with_reducible assumption | exact Below.refl _ _ | (refine Below.setCell ?_ (by first | exact Nat.le_refl _ | (simp; done) | omega | (simp; omega)) _) | (refine below_drewN ?_ _) | (refine Below.drew ?_) | (refine Below.alloc ?_ (by first | exact Nat.le_refl _ | (simp; done) | omega | (simp; omega)) _) | (refine then_ ?_ (by with_reducible assumption)) | assumption | (refine then_ ?_ (by assumption)))))
          go_wp2
          go_roundw
          case rel =>
            refine ⟨k + 1, by omega, by go_num, ?_⟩
            rw [S.out]
            exact ⟨⟨_, _, rfl⟩, owns_below OWW.out hB, OFF.out, OFP.out, RDW.out.keep (fun p hp => hB.cell (p := p) (by omega)), by have := hB.size; omega, keepC d0 hB, keepC d1 hB, then_ hwW hB⟩
          case measure => simp [intOf]; omega
      · go_region_held3 (fun w' => (∀ b o, b < W.heap.size → w'.cell? ⟨b, o, none⟩ = W.cell? ⟨b, o, none⟩) ∧ Below W.heap.size W w') (first | assumption | exact startS _ | exact stepS (by assumption) (by assumption)) (first | (go_at_call 15; refine (specIsPicture_any s A n c xs _ hn (ra.step ?_)).mono ?_; (repeat (first | with_reducible assumption | exact Below.refl _ _ | (refine Below.setCell ?_ (by first | exact Nat.le_refl _ | (simp; done) | omega | (simp; omega)) _) | (refine below_drewN ?_ _) | (refine Below.drew ?_) | (refine Below.alloc ?_ (by first | exact Nat.le_refl _ | (simp; done) | omega | (simp; omega)) _) | (refine then_ ?_ (by with_reducible assumption)) | assumption | (refine then_ ?_ (by assumption)))); rintro e w2 ⟨rfl, hb2⟩; simp only [h2]) | (go_at_call 33; refine (KI.out _ _ _ (ra.step ?_)).mono ?_; (repeat (first | with_reducible assumption | exact Below.refl _ _ | (refine Below.setCell ?_ (by first | exact Nat.le_refl _ | (simp; done) | omega | (simp; omega)) _) | (refine below_drewN ?_ _) | (refine Below.drew ?_) | (refine Below.alloc ?_ (by first | exact Nat.le_refl _ | (simp; done) | omega | (simp; omega)) _) | (refine then_ ?_ (by with_reducible assumption)) | assumption | (refine then_ ?_ (by assumption)))); rintro e w3 ⟨B2, d2, rfl, ho2, hb3⟩; have r2 := Rd.of_own colC_len rfl ho2; clear ho2) | (go_at_call 90; refine (specSamePicture_any _ _ _ _ _ _ _ _ ys xs _ hm hn (r2.step ?_) (ra.step ?_)).mono ?_; (repeat (first | with_reducible assumption | exact Below.refl _ _ | (refine Below.setCell ?_ (by first | exact Nat.le_refl _ | (simp; done) | omega | (simp; omega)) _) | (refine below_drewN ?_ _) | (refine Below.drew ?_) | (refine Below.alloc ?_ (by first | exact Nat.le_refl _ | (simp; done) | omega | (simp; omega)) _) | (refine then_ ?_ (by with_reducible assumption)) | assumption | (refine then_ ?_ (by assumption)))); (repeat (first | with_reducible assumption | exact Below.refl _ _ | (refine Below.setCell ?_ (by first | exact Nat.le_refl _ | (simp; done) | omega | (simp; omega)) _) | (refine below_drewN ?_ _) | (refine Below.drew ?_) | (refine Below.alloc ?_ (by first | exact Nat.le_refl _ | (simp; done) | omega | (simp; omega)) _) | (refine then_ ?_ (by with_reducible assumption)) | assumption | (refine then_ ?_ (by assumption)))); rintro e w4 ⟨rfl, hb4⟩))
        obtain ⟨-, hB⟩ := ‹_ ∧ Below W.heap.size W w4›
        clear hb4
        have u0 := keepC q0 hB
        have u1 := keepC q1 hB
        have OW4 := Lib.hid (owns_below OWW.out hB)
        have RD4 := Lib.hid (Rd.keep RDW.out (fun p hp => hB.cell (p := p) (by omega)))
        have e0 := keepC d0 hB
        have e1 := keepC d1 hB
        have hw4 := then_ hwW hB
        have z4 := hB.size
        cases hq : sameP s2 ys s xs
        · have S := Lib.hid (keptUp_no (s := s) (xs := xs) (m := k) (by rw [Option.some.inj E.out, R.out, hq]; simp))
          go_wp2
          go_roundw
          case rel =>
            refine ⟨k + 1, by omega, by go_num, ?_⟩
            rw [S.out]
            exact ⟨⟨_, _, rfl⟩, OW4.out, OFF.out, OFP.out, RD4.out, by omega, e0, e1, hw4⟩
          case measure => simp [intOf]; omega
        · have S := Lib.hid (keptUp_yes (s := s) (xs := xs) (m := k) (by rw [Option.some.inj E.out, R.out, hq, h2]; rfl))
          go_wp2_with (at_builtin; refine wpList_append_own_at _ rfl _ _ 65 rfl w.heap.size 52 i0 (.agg #[.int .i64 0, .bool false]) 2 16 Try.underlying65 hi hz0 hz1 hz2 rfl (by decide) _ _ _ rfl (OW4.out.alloc _) ⟨w4.heap.size, 0, none⟩ 1 1 [.int .i64 t, .bool f] rfl rfl ?c13 ?c23 ?c33 ?c43 ?c53 ?_; (case c13 => exact World.news_of_block (cs := #[.int .i64 t, .bool f]) (t := 52) (fr := (0, 0)) (heap_alloc_new w4 _)); (case c23 => simp [Value.oneCell']); (case c33 => unfold maxLen; omega); (case c43 => omega); (case c53 => (have := Below.size hw4; simp only [World.size_alloc]; omega)); intro v3 w3 hown3 hg3 hne3 hat3; simp only [World.size_alloc] at hat3; have GB3 := Lib.hid hg3; have OW3 := Lib.hid hown3; have BW3 := below_append hw4 OW4.out hg3; have NB3 := Lib.hid hat3; clear hown3 hg3 hne3 hat3)
          go_roundw
          case rel =>
            refine ⟨k + 1, by omega, by go_num, ?_⟩
            rw [S.out]
            obtain ⟨A3, c3, rfl⟩ := owns_slice OW3.out
            have hn : (keptUp s xs k ++ [sym8 k]).length = (keptUp s xs k).length + 1 := by simp
            rw [hn]
            have hA := (show Below w4.heap.size w4 (w4.alloc (Obj.cells #[.int .i64 t, .bool f] 52)) by (repeat (first | with_reducible assumption | exact Below.refl _ _ | (refine Below.setCell ?_ (by first | exact Nat.le_refl _ | (simp; done) | omega | (simp; omega)) _) | (refine below_drewN ?_ _) | (refine Below.drew ?_) | (refine Below.alloc ?_ (by first | exact Nat.le_refl _ | (simp; done) | omega | (simp; omega)) _) | (refine then_ ?_ (by with_reducible assumption)) | assumption | (refine then_ ?_ (by assumption)))))
            refine ⟨⟨_, _, rfl⟩, ?_, OFF.out.next (by omega) NB3.out, OFP.out.next (by omega) NB3.out, ?_, ?_, keepG_off (keepC e0 hA) GB3.out OFP.out, keepG_off (keepC e1 hA) GB3.out OFP.out, BW3⟩
            · have e : flat symC (keptUp s xs k ++ [sym8 k]) = flat symC (keptUp s xs k) ++ [.int .i64 t, .bool f] := by
                rw [flat_append, Option.some.inj E.out]
                rfl
              rw [e]
              exact OW3.out
            · exact Rd.grown (RD4.out.keep (fun p hp => hA.cell (p := p) (by omega))) GB3.out (by simp only [World.size_alloc]; omega) OFF.out
            · have := BW3.size
              have := GB3.out.size
              simp only [World.size_alloc] at this
              omega
          case measure => simp [intOf]; omega
    · obtain rfl : k = 8 := by omega
      go_wp2
      go_ret
      rw [keptUp_8] at OW ⊢
      exact ⟨A1, c1, rfl, OW.out, hw⟩
end Go.Proofs.Ythlkpopmoodmgaa
