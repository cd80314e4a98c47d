
/- SymsOf, both versions: the symmetries of mirrors. -/
import Derived.Test.YtchkcleenmoajaaSym
import Derived.Test.YtchkcleenmoajaaEq2
import Derived.Test.YtchkcleenmoajaaDrawSyms
import Derived.Maps.AppendAt
namespace Go.Proofs.Ytchkcleenmoajaa
open Go.RowKit
attribute [local go_sem] run_store_float run_store_complex

def ofB (kind : Int) (g : Int × Bool) : Bool := if kind = 0 then g.1 == 0 && !g.2 else if kind = 1 then g.1 == 0 else if kind = 2 then g.1 % 2 == 0 else kind == 3
def okB (kind : Int) (g : Int × Bool) : Bool := inB kind 0 3 && ofB kind g
def symsUp (kind : Int) (m : Nat) : List (Int × Bool) := ((List.range m).map sym8).filter (okB kind)
def symsL (kind : Int) : List (Int × Bool) := symsUp kind 8

theorem symsUp_succ (kind : Int) (m : Nat) : symsUp kind (m + 1) = symsUp kind m ++ if okB kind (sym8 m) then [sym8 m] else [] := by
  unfold symsUp
  rw [List.range_succ, List.map_append, List.filter_append]
  simp [List.filter_cons]
theorem symsUp_yes {kind : Int} {m : Nat} (h : okB kind (sym8 m) = true) : symsUp kind (m + 1) = symsUp kind m ++ [sym8 m] := by rw [symsUp_succ, if_pos h]
theorem symsUp_no {kind : Int} {m : Nat} (h : okB kind (sym8 m) = false) : symsUp kind (m + 1) = symsUp kind m := by rw [symsUp_succ, if_neg (by simp [h]), List.append_nil]
theorem symsL_no {kind : Int} (h : inB kind 0 3 = false) : symsL kind = [] := by
  unfold symsL symsUp
  rw [List.filter_eq_nil_iff]
  intro g _
  simp [okB, h]
theorem symsUp_len (kind : Int) (m : Nat) : (symsUp kind m).length ≤ m := by
  unfold symsUp
  exact Nat.le_trans (List.length_filter_le _ _) (by simp)

/-- slice v's own block is another one than g -/
def Off (v : Value) (g : Nat) : Prop := v.ownBlock ≠ some g
theorem Off.next {v v' : Value} {g n : Nat} (h : Off v g) (hn : g < n) (hat : v'.ownBlock = v.ownBlock ∨ v'.ownBlock = some n) : Off v' g := by
  unfold Off at *
  rcases hat with e | e
  · rw [e]; exact h
  · rw [e]; intro h1; injection h1 with h1; omega
theorem Rd.grown {α : Type} {enc : α → List Value} {sz : Nat} {w w' : World} {B g n : Nat} {xs : List α} {v : Value} {o : Nat} (h : Rd enc sz w B (some ⟨g, o, none⟩) n xs) (hg : w.grownBy w' v.ownBlock) (hlt : g < w.heap.size) (hoff : Off v g) :
    Rd enc sz w' B (some ⟨g, o, none⟩) n xs :=
  ⟨h.1, fun hn => by
    obtain ⟨b, off, e, hb, hc⟩ := h.2 hn
    injection e with e
    injection e with e1 e2
    subst e1 e2
    exact ⟨g, o, rfl, hb, fun k x hx j u hu => (World.cell?_of_block (hg.block g hlt (fun e => hoff e.symm))).trans (hc k x hx j u hu)⟩⟩
theorem allSyms_at {k : Nat} (h : k < 8) : allSyms[k]? = some (sym8 k) := by simp [allSyms, h]
theorem sym8_t : ∀ k : Nat, k < 8 → inB (sym8 k).1 0 3 = true := by decide

theorem isKind_any (n : Int) (w : World) :
    Calls Try.prog 27 #[.int .i64 n] w fun e w' => e = .returned (.bool (inB n 0 3)) ∧ w = w' := by
  go_enter Try.func27, Try.ntmps27
  go_wp2_with (go_at_call 29; refine (within_any _ _ _ _).mono ?_; rintro e w' ⟨rfl, rfl⟩)
  go_ret
  exact ⟨rfl, rfl⟩

def Bools (w : World) (g : Nat) : Prop := w.cell? ⟨g, 0, none⟩ = some (.bool false) ∧ w.cell? ⟨g, 1, none⟩ = some (.bool true)
theorem Bools.at_ {w : World} {g j : Nat} (h : Bools w g) (hj : j < 2) : w.cell? ⟨g, j, none⟩ = some (.bool (decide (1 ≤ j))) := by
  match j, hj with
  | 0, _ => exact h.1
  | 1, _ => exact h.2
theorem sym8_jk : ∀ j : Nat, j < 2 → ∀ k : Nat, k < 4 → sym8 (4 * j + k) = ((k : Int), decide (1 ≤ j)) := by decide
theorem Bools.step {w w' : World} {g : Nat} (h : Bools w g) (hb : Below w.heap.size w w') : Bools w' g :=
  ⟨(hb.cell (World.block_lt_of_cell? w _ h.1)).trans h.1, (hb.cell (World.block_lt_of_cell? w _ h.2)).trans h.2⟩
theorem Bools.grown {w w' : World} {g : Nat} {v : Value} (h : Bools w g) (hg : w.grownBy w' v.ownBlock) (hlt : g < w.heap.size) (hoff : Off v g) : Bools w' g :=
  ⟨(World.cell?_of_block (hg.block g hlt (fun e => hoff e.symm))).trans h.1, (World.cell?_of_block (hg.block g hlt (fun e => hoff e.symm))).trans h.2⟩

set_option maxRecDepth 100000 in
set_option maxHeartbeats 8000000 in
theorem symsOf_any (kind : Int) (w : World) :
    Calls Try.prog 13 #[.int .i64 kind] w fun e w' => ∃ A c, e = .returned (.slice A (symsL kind).length c) ∧ w'.ownsRow w.heap.size 31 2 (.slice A (symsL kind).length c) (symsL kind).length (flat symC (symsL kind)) ∧ Below w.heap.size w w' := by
  obtain ⟨i0, hi, hz0, hz1, hz2⟩ := info_parts infoSym
  cases hk : inB kind 0 3
  · have S := Lib.hid (symsL_no hk)
    go_enter Try.func13, Try.ntmps13
    go_wp2_with (go_at_call 27; refine (isKind_any _ _).mono ?_; rintro e w' ⟨rfl, rfl⟩; simp only [hk])
    go_ret
    rw [S.out]
    exact ⟨none, 0, rfl, ⟨rfl, .inl ⟨rfl, rfl⟩⟩, Below.refl _ _⟩
  · obtain ⟨k0, k3⟩ := inB_true hk
    go_enter Try.func13, Try.ntmps13
    go_wp2_with (go_at_call 27; refine (isKind_any _ _).mono ?_; rintro e w' ⟨rfl, rfl⟩; simp only [hk])
    have o0 : World.ownsRow _ w.heap.size 31 2 _ 0 [] := owns_below (World.ownsRow_lit (base := w.heap.size) w #[] 0 (Nat.le_refl _) (by simp [maxLen]) rfl) (show Below _ _ ((w.alloc (.cells #[] 31 (0, 0))).alloc (.cells #[.bool false, .bool true] 4 (0, 0))) by (repeat (first | with_reducible assumption | exact Below.refl _ _ | (refine Below.setCell ?_ (by first | exact Nat.le_refl _ | (simp; done) | omega | (simp; omega)) _) | (refine below_drewN ?_ _) | (refine Below.drew ?_) | (refine Below.alloc ?_ (by first | exact Nat.le_refl _ | (simp; done) | omega | (simp; omega)) _) | (refine then_ ?_ (by with_reducible assumption)) | assumption | (refine then_ ?_ (by assumption)))))
    have O0 := Lib.hid o0
    clear o0
    have hk' := Lib.hid hk
    clear hk
    go_loopw [3, 13] (fun v i wr => ∃ j : Nat, j ≤ 2 ∧ i = .int .i64 j ∧ (∃ A c, v = .slice A (symsUp kind (4 * j)).length c) ∧ wr.ownsRow w.heap.size 31 2 v (symsUp kind (4 * j)).length (flat symC (symsUp kind (4 * j))) ∧ Off v (w.heap.size + 1) ∧ Bools wr (w.heap.size + 1) ∧ w.heap.size + 2 ≤ wr.heap.size ∧ Below w.heap.size w wr) (fun _ i _ => 2 - (intOf i).toNat)
    case atStart => exact ⟨0, by omega, rfl, ⟨_, _, rfl⟩, O0.out, by unfold Off Value.ownBlock; simp, ⟨by simp [go_sem], by simp [go_sem]⟩, by simp, by (repeat (first | with_reducible assumption | exact Below.refl _ _ | (refine Below.setCell ?_ (by first | exact Nat.le_refl _ | (simp; done) | omega | (simp; omega)) _) | (refine below_drewN ?_ _) | (refine Below.drew ?_) | (refine Below.alloc ?_ (by first | exact Nat.le_refl _ | (simp; done) | omega | (simp; omega)) _) | (refine then_ ?_ (by with_reducible assumption)) | assumption | (refine then_ ?_ (by assumption))))⟩
    case round =>
      obtain ⟨j, hj, rfl, ⟨A1, c1, rfl⟩, hown, hoff, hbs, hsz, hw⟩ := hrel
      have OW := Lib.hid hown
      have OFF := Lib.hid hoff
      have BS := Lib.hid hbs
      clear hown hoff
      by_cases hlt : j < 2
      · have hc := hbs.at_ hlt
        have hj0 : (0 : Int) ≤ (j : Int) := by omega
        have hj2 : (j : Int) < 2 := by omega
        clear hbs
        obtain ⟨f, F⟩ : ∃ f, Hid (f = decide (1 ≤ j)) := ⟨_, Lib.hid rfl⟩
        rw [← F.out] at hc
        go_wp2_with fail
        clear hc
        have SZ := Lib.hid hsz
        have HW := Lib.hid hw
        clear hsz hw
        go_loopw [3, 17] (fun v i wx => ∃ k : Nat, k ≤ 4 ∧ i = .int .i64 k ∧ (∃ A c, v = .slice A (symsUp kind (4 * j + k)).length c) ∧ wx.ownsRow w.heap.size 31 2 v (symsUp kind (4 * j + k)).length (flat symC (symsUp kind (4 * j + k))) ∧ Off v (w.heap.size + 1) ∧ Bools wx (w.heap.size + 1) ∧ w.heap.size + 2 ≤ wx.heap.size ∧ Below w.heap.size w wx) (fun _ i _ => 4 - (intOf i).toNat)
        case atStart => exact ⟨0, by omega, rfl, ⟨_, _, rfl⟩, OW.out, OFF.out, BS.out, SZ.out, HW.out⟩
        case round =>
          clear OW OFF BS SZ HW
          obtain ⟨k, hk, rfl, ⟨A2, c2, rfl⟩, hown, hoff, hbs, hsz, hw⟩ := hrel
          have OW := Lib.hid hown
          have OFF := Lib.hid hoff
          have BS := Lib.hid hbs
          have LN := symsUp_len kind (4 * j + k)
          clear hown hoff hbs
          by_cases hlt2 : k < 4
          · have E := sym8_jk j hlt k hlt2
            rw [← F.out] at E
            have E := Lib.hid E
            have e : kind = 0 ∨ kind = 1 ∨ kind = 2 ∨ kind = 3 := by omega
            have ej : 4 * (j + 1) = 4 * j + 4 := by omega
            have hk0 : (0 : Int) ≤ (k : Int) := by omega
            have hk4 : (k : Int) < 4 := by omega
            clear F hk' k0 k3
            rcases e with rfl | rfl | rfl | rfl
            · cases hz : ((k : Int) != 0)
              · cases f
                · have S := Lib.hid (symsUp_yes (kind := 0) (m := 4 * j + k) (by rw [E.out]; simp [okB, ofB, inB]; simpa using hz))
                  go_wp2_with (at_builtin; refine wpList_append_own_at _ rfl _ _ 46 rfl w.heap.size 31 i0 (.agg #[.int .i64 0, .bool false]) 2 16 Try.underlying46 hi hz0 hz1 hz2 rfl (by decide) _ _ _ rfl (OW.out.alloc _) ⟨wr.heap.size, 0, none⟩ 1 1 [.int .i64 (k : Int), .bool false] rfl rfl ?c13 ?c23 ?c33 ?c43 ?c53 ?_; (case c13 => exact World.news_of_block (cs := #[.int .i64 (k : Int), .bool false]) (t := 31) (fr := (0, 0)) (heap_alloc_new wr _)); (case c23 => simp [Value.oneCell']); (case c33 => unfold maxLen; omega); (case c43 => omega); (case c53 => (have := Below.size hw; simp only [World.size_alloc]; omega)); intro v3 w3 hown3 hg3 hne3 hat3; simp only [World.size_alloc] at hat3; have GB3 := Lib.hid hg3; have OW3 := Lib.hid hown3; have BW3 := below_append hw OW.out hg3; have NB3 := Lib.hid hat3; clear hown3 hg3 hne3 hat3)
                  go_roundw
                  case rel =>
                    obtain ⟨A3, c3, rfl⟩ := owns_slice OW3.out
                    refine ⟨k + 1, by omega, by go_num, ?_⟩
                    rw [← Nat.add_assoc, S.out, List.length_append, flat_append, E.out]
                    refine ⟨⟨_, _, rfl⟩, OW3.out, OFF.out.next (by omega) NB3.out, Bools.grown (BS.out.step (by (repeat (first | with_reducible assumption | exact Below.refl _ _ | (refine Below.setCell ?_ (by first | exact Nat.le_refl _ | (simp; done) | omega | (simp; omega)) _) | (refine below_drewN ?_ _) | (refine Below.drew ?_) | (refine Below.alloc ?_ (by first | exact Nat.le_refl _ | (simp; done) | omega | (simp; omega)) _) | (refine then_ ?_ (by with_reducible assumption)) | assumption | (refine then_ ?_ (by assumption)))))) GB3.out (by simp only [World.size_alloc]; omega) OFF.out, ?_, BW3⟩
                    have := GB3.out.size
                    simp only [World.size_alloc] at this
                    omega
                  case measure => simp [intOf]; omega
                · have S := Lib.hid (symsUp_no (kind := 0) (m := 4 * j + k) (by rw [E.out]; simp [okB, ofB, inB]))
                  go_wp2_with fail
                  go_roundw
                  case rel =>
                    refine ⟨k + 1, by omega, by go_num, ?_⟩
                    rw [← Nat.add_assoc, S.out]
                    exact ⟨⟨_, _, rfl⟩, OW.out, OFF.out, BS.out, hsz, hw⟩
                  case measure => simp [intOf]; omega
              · cases f
                all_goals
                  have S := Lib.hid (symsUp_no (kind := 0) (m := 4 * j + k) (by rw [E.out]; simp [okB, ofB, inB]; first | done | (simpa using hz)))
                  go_wp2_with fail
                  go_roundw
                  case rel =>
                    refine ⟨k + 1, by omega, by go_num, ?_⟩
                    rw [← Nat.add_assoc, S.out]
                    exact ⟨⟨_, _, rfl⟩, OW.out, OFF.out, BS.out, hsz, hw⟩
                  case measure => simp [intOf]; omega
            · cases hz : ((k : Int) != 0)
              · have S := Lib.hid (symsUp_yes (kind := 1) (m := 4 * j + k) (by rw [E.out]; simp [okB, ofB, inB]; simpa using hz))
                go_wp2_with (at_builtin; refine wpList_append_own_at _ rfl _ _ 46 rfl w.heap.size 31 i0 (.agg #[.int .i64 0, .bool false]) 2 16 Try.underlying46 hi hz0 hz1 hz2 rfl (by decide) _ _ _ rfl (OW.out.alloc _) ⟨wr.heap.size, 0, none⟩ 1 1 [.int .i64 (k : Int), .bool f] rfl rfl ?c13 ?c23 ?c33 ?c43 ?c53 ?_; (case c13 => exact World.news_of_block (cs := #[.int .i64 (k : Int), .bool f]) (t := 31) (fr := (0, 0)) (heap_alloc_new wr _)); (case c23 => simp [Value.oneCell']); (case c33 => unfold maxLen; omega); (case c43 => omega); (case c53 => (have := Below.size hw; simp only [World.size_alloc]; omega)); intro v3 w3 hown3 hg3 hne3 hat3; simp only [World.size_alloc] at hat3; have GB3 := Lib.hid hg3; have OW3 := Lib.hid hown3; have BW3 := below_append hw OW.out hg3; have NB3 := Lib.hid hat3; clear hown3 hg3 hne3 hat3)
                go_roundw
                case rel =>
                  obtain ⟨A3, c3, rfl⟩ := owns_slice OW3.out
                  refine ⟨k + 1, by omega, by go_num, ?_⟩
                  rw [← Nat.add_assoc, S.out, List.length_append, flat_append, E.out]
                  refine ⟨⟨_, _, rfl⟩, OW3.out, OFF.out.next (by omega) NB3.out, Bools.grown (BS.out.step (by (repeat (first | with_reducible assumption | exact Below.refl _ _ | (refine Below.setCell ?_ (by first | exact Nat.le_refl _ | (simp; done) | omega | (simp; omega)) _) | (refine below_drewN ?_ _) | (refine Below.drew ?_) | (refine Below.alloc ?_ (by first | exact Nat.le_refl _ | (simp; done) | omega | (simp; omega)) _) | (refine then_ ?_ (by with_reducible assumption)) | assumption | (refine then_ ?_ (by assumption)))))) GB3.out (by simp only [World.size_alloc]; omega) OFF.out, ?_, BW3⟩
                  have := GB3.out.size
                  simp only [World.size_alloc] at this
                  omega
                case measure => simp [intOf]; omega
              · have S := Lib.hid (symsUp_no (kind := 1) (m := 4 * j + k) (by rw [E.out]; simp [okB, ofB, inB]; simpa using hz))
                go_wp2_with fail
                go_roundw
                case rel =>
                  refine ⟨k + 1, by omega, by go_num, ?_⟩
                  rw [← Nat.add_assoc, S.out]
                  exact ⟨⟨_, _, rfl⟩, OW.out, OFF.out, BS.out, hsz, hw⟩
                case measure => simp [intOf]; omega
            · cases hz : (((k : Int) % 2) != 0)
              · have S := Lib.hid (symsUp_yes (kind := 2) (m := 4 * j + k) (by rw [E.out]; simp [okB, ofB, inB]; simpa using hz))
                go_wp2_with (at_builtin; refine wpList_append_own_at _ rfl _ _ 46 rfl w.heap.size 31 i0 (.agg #[.int .i64 0, .bool false]) 2 16 Try.underlying46 hi hz0 hz1 hz2 rfl (by decide) _ _ _ rfl (OW.out.alloc _) ⟨wr.heap.size, 0, none⟩ 1 1 [.int .i64 (k : Int), .bool f] rfl rfl ?c13 ?c23 ?c33 ?c43 ?c53 ?_; (case c13 => exact World.news_of_block (cs := #[.int .i64 (k : Int), .bool f]) (t := 31) (fr := (0, 0)) (heap_alloc_new wr _)); (case c23 => simp [Value.oneCell']); (case c33 => unfold maxLen; omega); (case c43 => omega); (case c53 => (have := Below.size hw; simp only [World.size_alloc]; omega)); intro v3 w3 hown3 hg3 hne3 hat3; simp only [World.size_alloc] at hat3; have GB3 := Lib.hid hg3; have OW3 := Lib.hid hown3; have BW3 := below_append hw OW.out hg3; have NB3 := Lib.hid hat3; clear hown3 hg3 hne3 hat3)
                go_roundw
                case rel =>
                  obtain ⟨A3, c3, rfl⟩ := owns_slice OW3.out
                  refine ⟨k + 1, by omega, by go_num, ?_⟩
                  rw [← Nat.add_assoc, S.out, List.length_append, flat_append, E.out]
                  refine ⟨⟨_, _, rfl⟩, OW3.out, OFF.out.next (by omega) NB3.out, Bools.grown (BS.out.step (by (repeat (first | with_reducible assumption | exact Below.refl _ _ | (refine Below.setCell ?_ (by first | exact Nat.le_refl _ | (simp; done) | omega | (simp; omega)) _) | (refine below_drewN ?_ _) | (refine Below.drew ?_) | (refine Below.alloc ?_ (by first | exact Nat.le_refl _ | (simp; done) | omega | (simp; omega)) _) | (refine then_ ?_ (by with_reducible assumption)) | assumption | (refine then_ ?_ (by assumption)))))) GB3.out (by simp only [World.size_alloc]; omega) OFF.out, ?_, BW3⟩
                  have := GB3.out.size
                  simp only [World.size_alloc] at this
                  omega
                case measure => simp [intOf]; omega
              · have S := Lib.hid (symsUp_no (kind := 2) (m := 4 * j + k) (by rw [E.out]; simp [okB, ofB, inB]; simpa using hz))
                go_wp2_with fail
                go_roundw
                case rel =>
                  refine ⟨k + 1, by omega, by go_num, ?_⟩
                  rw [← Nat.add_assoc, S.out]
                  exact ⟨⟨_, _, rfl⟩, OW.out, OFF.out, BS.out, hsz, hw⟩
                case measure => simp [intOf]; omega
            · have S := Lib.hid (symsUp_yes (kind := 3) (m := 4 * j + k) (by rw [E.out]; simp [okB, ofB, inB]))
              go_wp2_with (at_builtin; refine wpList_append_own_at _ rfl _ _ 46 rfl w.heap.size 31 i0 (.agg #[.int .i64 0, .bool false]) 2 16 Try.underlying46 hi hz0 hz1 hz2 rfl (by decide) _ _ _ rfl (OW.out.alloc _) ⟨wr.heap.size, 0, none⟩ 1 1 [.int .i64 (k : Int), .bool f] rfl rfl ?c13 ?c23 ?c33 ?c43 ?c53 ?_; (case c13 => exact World.news_of_block (cs := #[.int .i64 (k : Int), .bool f]) (t := 31) (fr := (0, 0)) (heap_alloc_new wr _)); (case c23 => simp [Value.oneCell']); (case c33 => unfold maxLen; omega); (case c43 => omega); (case c53 => (have := Below.size hw; simp only [World.size_alloc]; omega)); intro v3 w3 hown3 hg3 hne3 hat3; simp only [World.size_alloc] at hat3; have GB3 := Lib.hid hg3; have OW3 := Lib.hid hown3; have BW3 := below_append hw OW.out hg3; have NB3 := Lib.hid hat3; clear hown3 hg3 hne3 hat3)
              go_roundw
              case rel =>
                obtain ⟨A3, c3, rfl⟩ := owns_slice OW3.out
                refine ⟨k + 1, by omega, by go_num, ?_⟩
                rw [← Nat.add_assoc, S.out, List.length_append, flat_append, E.out]
                refine ⟨⟨_, _, rfl⟩, OW3.out, OFF.out.next (by omega) NB3.out, Bools.grown (BS.out.step (by (repeat (first | with_reducible assumption | exact Below.refl _ _ | (refine Below.setCell ?_ (by first | exact Nat.le_refl _ | (simp; done) | omega | (simp; omega)) _) | (refine below_drewN ?_ _) | (refine Below.drew ?_) | (refine Below.alloc ?_ (by first | exact Nat.le_refl _ | (simp; done) | omega | (simp; omega)) _) | (refine then_ ?_ (by with_reducible assumption)) | assumption | (refine then_ ?_ (by assumption)))))) GB3.out (by simp only [World.size_alloc]; omega) OFF.out, ?_, BW3⟩
                have := GB3.out.size
                simp only [World.size_alloc] at this
                omega
              case measure => simp [intOf]; omega
          · obtain rfl : k = 4 := by omega
            go_wp2_with fail
            go_roundw
            case rel => exact ⟨j + 1, by omega, by go_num, ⟨_, _, rfl⟩, OW.out, OFF.out, BS.out, hsz, hw⟩
            case measure => simp [intOf]; omega
      · obtain rfl : j = 2 := by omega
        go_wp2
        go_ret
        exact ⟨_, _, rfl, OW.out, hw⟩
end Go.Proofs.Ytchkcleenmoajaa
