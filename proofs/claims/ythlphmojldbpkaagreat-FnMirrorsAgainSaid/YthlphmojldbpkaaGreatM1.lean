/- Syms · Own · Reg · Kept · Fold · Col · Tum · Tum2 · Flt -/
import Derived.Test.YthlphmojldbpkaaGreatM0
import Derived.Maps.AppendAt
import Derived.Deep.RegionHeld3
import Derived.Deep.DeepCutAuto
import Derived.Lib.SliceRun
import Derived.Laws.OwnMore
import Derived.Deep.RegionLaw

/- SymsOf, both versions: the symmetries of mirrors. -/
namespace Go.Proofs.YthlphmojldbpkaaGreat
open Go.RowKit
attribute [local go_sem] run_store_float run_store_complex

def ofB (kind : Int) (g : Int × Bool) : Bool := if kind = 0 then g.1 == 0 && !g.2 else if kind = 1 then g.1 == 0 else if kind = 2 then g.1 % 2 == 0 else kind == 3
def okB (kind : Int) (g : Int × Bool) : Bool := inB kind 0 3 && ofB kind g
def symsUp (kind : Int) (m : Nat) : List (Int × Bool) := ((List.range m).map sym8).filter (okB kind)
def symsL (kind : Int) : List (Int × Bool) := symsUp kind 8

theorem symsUp_succ (kind : Int) (m : Nat) : symsUp kind (m + 1) = symsUp kind m ++ if okB kind (sym8 m) then [sym8 m] else [] := by
  unfold symsUp
  rw [List.range_succ, List.map_append, List.filter_append]
  simp [List.filter_cons]
theorem symsUp_yes {kind : Int} {m : Nat} (h : okB kind (sym8 m) = true) : symsUp kind (m + 1) = symsUp kind m ++ [sym8 m] := by rw [symsUp_succ, if_pos h]
theorem symsUp_no {kind : Int} {m : Nat} (h : okB kind (sym8 m) = false) : symsUp kind (m + 1) = symsUp kind m := by rw [symsUp_succ, if_neg (by simp [h]), List.append_nil]
theorem symsL_no {kind : Int} (h : inB kind 0 3 = false) : symsL kind = [] := by
  unfold symsL symsUp
  rw [List.filter_eq_nil_iff]
  intro g _
  simp [okB, h]
theorem symsUp_len (kind : Int) (m : Nat) : (symsUp kind m).length ≤ m := by
  unfold symsUp
  exact Nat.le_trans (List.length_filter_le _ _) (by simp)

/-- slice v's own block is another one than g -/
def Off (v : Value) (g : Nat) : Prop := v.ownBlock ≠ some g
theorem Off.next {v v' : Value} {g n : Nat} (h : Off v g) (hn : g < n) (hat : v'.ownBlock = v.ownBlock ∨ v'.ownBlock = some n) : Off v' g := by
  unfold Off at *
  rcases hat with e | e
  · rw [e]; exact h
  · rw [e]; intro h1; injection h1 with h1; omega
theorem Rd.grown {α : Type} {enc : α → List Value} {sz : Nat} {w w' : World} {B g n : Nat} {xs : List α} {v : Value} {o : Nat} (h : Rd enc sz w B (some ⟨g, o, none⟩) n xs) (hg : w.grownBy w' v.ownBlock) (hlt : g < w.heap.size) (hoff : Off v g) :
    Rd enc sz w' B (some ⟨g, o, none⟩) n xs :=
  ⟨h.1, fun hn => by
    obtain ⟨b, off, e, hb, hc⟩ := h.2 hn
    injection e with e
    injection e with e1 e2
    subst e1 e2
    exact ⟨g, o, rfl, hb, fun k x hx j u hu => (World.cell?_of_block (hg.block g hlt (fun e => hoff e.symm))).trans (hc k x hx j u hu)⟩⟩
theorem allSyms_at {k : Nat} (h : k < 8) : allSyms[k]? = some (sym8 k) := by simp [allSyms, h]
theorem sym8_t : ∀ k : Nat, k < 8 → inB (sym8 k).1 0 3 = true := by decide

theorem isKind_any (n : Int) (w : World) :
    Calls Tryz.prog 39 #[.int .i64 n] w fun e w' => e = .returned (.bool (inB n 0 3)) ∧ w = w' := by
  go_enter Tryz.func39, Tryz.ntmps39
  go_wp2_with (go_at_call 49; refine (within_any _ _ _ _).mono ?_; rintro e w' ⟨rfl, rfl⟩)
  go_ret
  exact ⟨rfl, rfl⟩

set_option maxHeartbeats 1000000 in
theorem l1Of_any (kind t : Int) (f : Bool) (w : World) (hk : inB kind 0 3 = true) (ht : inB t 0 3 = true) :
    Calls Tryz.prog 158 #[.int .i64 kind, .agg #[.int .i64 t, .bool f]] w fun e w' => e = .returned (.bool (ofB kind (t, f))) ∧ Below w.heap.size w w' := by
  obtain ⟨k0, k3⟩ := inB_true hk
  obtain ⟨t0, t3⟩ := inB_true ht
  clear hk ht
  have e : kind = 0 ∨ kind = 1 ∨ kind = 2 ∨ kind = 3 := by omega
  rcases e with rfl | rfl | rfl | rfl
  · by_cases e : t = 0
    · subst e
      cases f
      all_goals
        go_enter Tryz.func158, Tryz.ntmps158
        go_wp2
        go_ret
        exact ⟨by simp [ofB], by (repeat (first | with_reducible assumption | exact Below.refl _ _ | (refine Below.setCell ?_ (by first | exact Nat.le_refl _ | (simp; done) | omega | (simp; omega)) _) | (refine below_drewN ?_ _) | (refine Below.drew ?_) | (refine Below.alloc ?_ (by first | exact Nat.le_refl _ | (simp; done) | omega | (simp; omega)) _) | (refine then_ ?_ (by with_reducible assumption)) | assumption | (refine then_ ?_ (by assumption))))⟩
    · cases f
      all_goals
        go_enter Tryz.func158, Tryz.ntmps158
        go_wp2
        go_ret
        exact ⟨by simp [ofB, e], by (repeat (first | with_reducible assumption | exact Below.refl _ _ | (refine Below.setCell ?_ (by first | exact Nat.le_refl _ | (simp; done) | omega | (simp; omega)) _) | (refine below_drewN ?_ _) | (refine Below.drew ?_) | (refine Below.alloc ?_ (by first | exact Nat.le_refl _ | (simp; done) | omega | (simp; omega)) _) | (refine then_ ?_ (by with_reducible assumption)) | assumption | (refine then_ ?_ (by assumption))))⟩
  all_goals
    go_enter Tryz.func158, Tryz.ntmps158
    go_wp2
    go_ret
    exact ⟨by simp [ofB], by (repeat (first | with_reducible assumption | exact Below.refl _ _ | (refine Below.setCell ?_ (by first | exact Nat.le_refl _ | (simp; done) | omega | (simp; omega)) _) | (refine below_drewN ?_ _) | (refine Below.drew ?_) | (refine Below.alloc ?_ (by first | exact Nat.le_refl _ | (simp; done) | omega | (simp; omega)) _) | (refine then_ ?_ (by with_reducible assumption)) | assumption | (refine then_ ?_ (by assumption))))⟩

set_option maxRecDepth 100000 in
set_option maxHeartbeats 4000000 in
theorem specSymsOf_any (kind : Int) (w : World) :
    Calls Tryz.prog 150 #[.int .i64 kind] w fun e w' => ∃ A c, e = .returned (.slice A (symsL kind).length c) ∧ w'.ownsRow w.heap.size 58 2 (.slice A (symsL kind).length c) (symsL kind).length (flat symC (symsL kind)) ∧ Below w.heap.size w w' := by
  obtain ⟨i0, hi, hz0, hz1, hz2⟩ := info_parts infoSym
  go_enter Tryz.func150, Tryz.ntmps150
  go_wp2_with fail
  refine (l1All_any _).mono ?_
  rintro e w1 ⟨A, c, rfl, ho1, hb1⟩
  obtain ⟨ga, rfl⟩ : ∃ ga, A = some ⟨ga, 0, none⟩ := by
    rcases ho1.2 with ⟨_, h0⟩ | ⟨ga, _, _, h0, _⟩
    · omega
    · injection h0 with h1
      exact ⟨ga, h1⟩
  have r1 : Rd symC 2 w1 w1.heap.size (some ⟨ga, 0, none⟩) 8 allSyms := Rd.of_own symC_len (by rfl) ho1
  obtain ⟨g1, g2⟩ := ho1.lt ga rfl
  simp only [World.size_alloc] at g1
  have o0 := owns_below (World.ownsRow_lit (base := w.heap.size) w #[] 0 (Nat.le_refl _) (by simp [maxLen]) rfl : World.ownsRow _ w.heap.size 58 2 _ 0 []) hb1
  have hB1 : Below w.heap.size w w1 := by (repeat (first | with_reducible assumption | exact Below.refl _ _ | (refine Below.setCell ?_ (by first | exact Nat.le_refl _ | (simp; done) | omega | (simp; omega)) _) | (refine below_drewN ?_ _) | (refine Below.drew ?_) | (refine Below.alloc ?_ (by first | exact Nat.le_refl _ | (simp; done) | omega | (simp; omega)) _) | (refine then_ ?_ (by with_reducible assumption)) | assumption | (refine then_ ?_ (by assumption))))
  clear hb1 ho1
  have O0 := Lib.hid o0
  clear o0
  go_wp2_with fail
  go_loopw [3, 9] (fun v i wr => ∃ k : Nat, k ≤ 8 ∧ i = .int .i64 k ∧ (∃ A c, v = .slice A (symsUp kind k).length c) ∧ wr.ownsRow w.heap.size 58 2 v (symsUp kind k).length (flat symC (symsUp kind k)) ∧ Off v ga ∧ Rd symC 2 wr w1.heap.size (some ⟨ga, 0, none⟩) 8 allSyms ∧ w1.heap.size ≤ wr.heap.size ∧ Below w.heap.size w wr) (fun _ i _ => 8 - (intOf i).toNat)
  case atStart => exact ⟨0, by omega, rfl, ⟨_, _, rfl⟩, O0.out, by unfold Off Value.ownBlock; simp; omega, r1, Nat.le_refl _, hB1⟩
  case round =>
    obtain ⟨k, hk, rfl, ⟨A1, c1, rfl⟩, hown, hoff, hrd, hsz, hw⟩ := hrel
    have OW := Lib.hid hown
    have OFF := Lib.hid hoff
    have RD := Lib.hid hrd
    clear hown hoff r1
    by_cases hlt : k < 8
    · obtain ⟨b, off, t, f, e, _, hx, h0, h1⟩ := hrd.sym hlt
      injection e with e
      injection e with e1 e2
      subst e1 e2
      rw [allSyms_at hlt] at hx
      have ht := sym8_t k hlt
      have E := Lib.hid hx
      injection hx with hx
      rw [hx] at ht
      clear hx hrd
      simp only [Nat.zero_add] at h0 h1
      simp only at ht
      have hk0 : (0 : Int) ≤ (k : Int) := by omega
      have hk8 : (k : Int) < 8 := by omega
      have LN := symsUp_len kind k
      cases hq : inB kind 0 3
      · have S := Lib.hid (symsUp_no (kind := kind) (m := k) (by simp [okB, hq]))
        go_wp2_with (go_at_call 126; refine (l1In_any _ _ _ _).mono ?_; rintro e w' ⟨rfl, rfl⟩; simp only [hq])
        go_roundw
        case rel =>
          refine ⟨k + 1, by omega, by go_num, ?_⟩
          rw [S.out]
          exact ⟨⟨_, _, rfl⟩, owns_below OW.out (by (repeat (first | with_reducible assumption | exact Below.refl _ _ | (refine Below.setCell ?_ (by first | exact Nat.le_refl _ | (simp; done) | omega | (simp; omega)) _) | (refine below_drewN ?_ _) | (refine Below.drew ?_) | (refine Below.alloc ?_ (by first | exact Nat.le_refl _ | (simp; done) | omega | (simp; omega)) _) | (refine then_ ?_ (by with_reducible assumption)) | assumption | (refine then_ ?_ (by assumption))))), OFF.out, RD.out.keep (fun p hp => Below.cell (w := wr) (B := wr.heap.size) (by (repeat (first | with_reducible assumption | exact Below.refl _ _ | (refine Below.setCell ?_ (by first | exact Nat.le_refl _ | (simp; done) | omega | (simp; omega)) _) | (refine below_drewN ?_ _) | (refine Below.drew ?_) | (refine Below.alloc ?_ (by first | exact Nat.le_refl _ | (simp; done) | omega | (simp; omega)) _) | (refine then_ ?_ (by with_reducible assumption)) | assumption | (refine then_ ?_ (by assumption))))) (by omega)), by simp; omega, by (repeat (first | with_reducible assumption | exact Below.refl _ _ | (refine Below.setCell ?_ (by first | exact Nat.le_refl _ | (simp; done) | omega | (simp; omega)) _) | (refine below_drewN ?_ _) | (refine Below.drew ?_) | (refine Below.alloc ?_ (by first | exact Nat.le_refl _ | (simp; done) | omega | (simp; omega)) _) | (refine then_ ?_ (by with_reducible assumption)) | assumption | (refine then_ ?_ (by assumption))))⟩
        case measure => simp [intOf]; omega
      · cases ho : ofB kind (t, f)
        · have S := Lib.hid (symsUp_no (kind := kind) (m := k) (by rw [Option.some.inj E.out]; simp [okB, ho]))
          go_wp2_with (first
            | (go_at_call 126; refine (l1In_any _ _ _ _).mono ?_; rintro e w' ⟨rfl, rfl⟩; simp only [hq])
            | (go_at_call 158; refine (l1Of_any _ _ _ _ hq ht).mono ?_; rintro e w2 ⟨rfl, hb2⟩; simp only [ho]))
          go_roundw
          case rel =>
            refine ⟨k + 1, by omega, by go_num, ?_⟩
            rw [S.out]
            exact ⟨⟨_, _, rfl⟩, owns_below OW.out (by (repeat (first | with_reducible assumption | exact Below.refl _ _ | (refine Below.setCell ?_ (by first | exact Nat.le_refl _ | (simp; done) | omega | (simp; omega)) _) | (refine below_drewN ?_ _) | (refine Below.drew ?_) | (refine Below.alloc ?_ (by first | exact Nat.le_refl _ | (simp; done) | omega | (simp; omega)) _) | (refine then_ ?_ (by with_reducible assumption)) | assumption | (refine then_ ?_ (by assumption))))), OFF.out, RD.out.keep (fun p hp => Below.cell (w := wr) (B := wr.heap.size) (by (repeat (first | with_reducible assumption | exact Below.refl _ _ | (refine Below.setCell ?_ (by first | exact Nat.le_refl _ | (simp; done) | omega | (simp; omega)) _) | (refine below_drewN ?_ _) | (refine Below.drew ?_) | (refine Below.alloc ?_ (by first | exact Nat.le_refl _ | (simp; done) | omega | (simp; omega)) _) | (refine then_ ?_ (by with_reducible assumption)) | assumption | (refine then_ ?_ (by assumption))))) (by omega)), by have := hb2.size; simp at this; omega, by (repeat (first | with_reducible assumption | exact Below.refl _ _ | (refine Below.setCell ?_ (by first | exact Nat.le_refl _ | (simp; done) | omega | (simp; omega)) _) | (refine below_drewN ?_ _) | (refine Below.drew ?_) | (refine Below.alloc ?_ (by first | exact Nat.le_refl _ | (simp; done) | omega | (simp; omega)) _) | (refine then_ ?_ (by with_reducible assumption)) | assumption | (refine then_ ?_ (by assumption))))⟩
          case measure => simp [intOf]; omega
        · have S := Lib.hid (symsUp_yes (kind := kind) (m := k) (by rw [Option.some.inj E.out]; simp [okB, ho, hq]))
          go_wp2_with (first
            | (go_at_call 126; refine (l1In_any _ _ _ _).mono ?_; rintro e w' ⟨rfl, rfl⟩; simp only [hq])
            | (go_at_call 158; refine (l1Of_any _ _ _ _ hq ht).mono ?_; rintro e w2 ⟨rfl, hb2⟩; simp only [ho]; have kc_0 := keepC (p := ⟨wr.heap.size, 0, none⟩) (v := .int .i64 t) (by first | assumption | (simp [go_sem]; done) | (simp [go_sem, *]; done)) hb2; have kc_1 := keepC (p := ⟨wr.heap.size, 1, none⟩) (v := .bool f) (by first | assumption | (simp [go_sem]; done) | (simp [go_sem, *]; done)) hb2; have lb_ := (show wr.heap.size < _ from World.block_lt_of_cell? _ _ kc_0); have hB2 : Below wr.heap.size wr w2 := (by (repeat (first | with_reducible assumption | exact Below.refl _ _ | (refine Below.setCell ?_ (by first | exact Nat.le_refl _ | (simp; done) | omega | (simp; omega)) _) | (refine below_drewN ?_ _) | (refine Below.drew ?_) | (refine Below.alloc ?_ (by first | exact Nat.le_refl _ | (simp; done) | omega | (simp; omega)) _) | (refine then_ ?_ (by with_reducible assumption)) | assumption | (refine then_ ?_ (by assumption))))); have hW2 := then_ hw hB2; have OW2 := Lib.hid (owns_below OW.out hB2); have hs2 := hB2.size; clear hb2)
            | (at_builtin; refine wpList_append_own_at _ rfl _ _ 64 rfl w.heap.size 58 i0 (.agg #[.int .i64 0, .bool false]) 2 16 Tryz.underlying64 hi hz0 hz1 hz2 rfl (by decide) _ _ _ rfl (OW2.out.alloc _) ⟨w2.heap.size, 0, none⟩ 1 1 [.int .i64 t, .bool f] rfl rfl ?c13 ?c23 ?c33 ?c43 ?c53 ?_; (case c13 => exact World.news_of_block (cs := #[.int .i64 t, .bool f]) (t := 58) (fr := (0, 0)) (heap_alloc_new w2 _)); (case c23 => simp [Value.oneCell']); (case c33 => unfold maxLen; omega); (case c43 => omega); (case c53 => (have := Below.size hW2; simp only [World.size_alloc]; omega)); intro v3 w3 hown3 hg3 hne3 hat3; simp only [World.size_alloc] at hat3; have GB3 := Lib.hid hg3; have OW3 := Lib.hid hown3; have BW3 := below_append hW2 OW2.out hg3; have NB3 := Lib.hid hat3; clear hown3 hg3 hne3 hat3))
          go_roundw
          case rel =>
            refine ⟨k + 1, by omega, by go_num, ?_⟩
            rw [S.out]
            obtain ⟨A3, c3, rfl⟩ := owns_slice OW3.out
            have hn : (symsUp kind k ++ [sym8 k]).length = (symsUp kind k).length + 1 := by simp
            rw [hn]
            refine ⟨⟨_, _, rfl⟩, ?_, OFF.out.next (by omega) NB3.out, ?_, ?_, BW3⟩
            · have e : flat symC (symsUp kind k ++ [sym8 k]) = flat symC (symsUp kind k) ++ [.int .i64 t, .bool f] := by
                rw [flat_append, Option.some.inj E.out]
                rfl
              rw [e]
              exact OW3.out
            · exact Rd.grown (RD.out.keep (fun p hp => Below.cell (w := wr) (B := wr.heap.size) (by (repeat (first | with_reducible assumption | exact Below.refl _ _ | (refine Below.setCell ?_ (by first | exact Nat.le_refl _ | (simp; done) | omega | (simp; omega)) _) | (refine below_drewN ?_ _) | (refine Below.drew ?_) | (refine Below.alloc ?_ (by first | exact Nat.le_refl _ | (simp; done) | omega | (simp; omega)) _) | (refine then_ ?_ (by with_reducible assumption)) | assumption | (refine then_ ?_ (by assumption))))) (by omega))) GB3.out (by simp only [World.size_alloc]; omega) OFF.out
            · have := BW3.size
              have := GB3.out.size
              simp only [World.size_alloc] at this
              omega
          case measure => simp [intOf]; omega
    · obtain rfl : k = 8 := by omega
      go_wp2
      go_ret
      exact ⟨_, _, rfl, OW.out, hw⟩

def Bools (w : World) (g : Nat) : Prop := w.cell? ⟨g, 0, none⟩ = some (.bool false) ∧ w.cell? ⟨g, 1, none⟩ = some (.bool true)
theorem Bools.at_ {w : World} {g j : Nat} (h : Bools w g) (hj : j < 2) : w.cell? ⟨g, j, none⟩ = some (.bool (decide (1 ≤ j))) := by
  match j, hj with
  | 0, _ => exact h.1
  | 1, _ => exact h.2
theorem sym8_jk : ∀ j : Nat, j < 2 → ∀ k : Nat, k < 4 → sym8 (4 * j + k) = ((k : Int), decide (1 ≤ j)) := by decide
theorem Bools.step {w w' : World} {g : Nat} (h : Bools w g) (hb : Below w.heap.size w w') : Bools w' g :=
  ⟨(hb.cell (World.block_lt_of_cell? w _ h.1)).trans h.1, (hb.cell (World.block_lt_of_cell? w _ h.2)).trans h.2⟩
theorem Bools.grown {w w' : World} {g : Nat} {v : Value} (h : Bools w g) (hg : w.grownBy w' v.ownBlock) (hlt : g < w.heap.size) (hoff : Off v g) : Bools w' g :=
  ⟨(World.cell?_of_block (hg.block g hlt (fun e => hoff e.symm))).trans h.1, (World.cell?_of_block (hg.block g hlt (fun e => hoff e.symm))).trans h.2⟩

set_option maxRecDepth 100000 in
set_option maxHeartbeats 8000000 in
theorem symsOf_any (kind : Int) (w : World) :
    Calls Tryz.prog 20 #[.int .i64 kind] w fun e w' => ∃ A c, e = .returned (.slice A (symsL kind).length c) ∧ w'.ownsRow w.heap.size 58 2 (.slice A (symsL kind).length c) (symsL kind).length (flat symC (symsL kind)) ∧ Below w.heap.size w w' := by
  obtain ⟨i0, hi, hz0, hz1, hz2⟩ := info_parts infoSym
  cases hk : inB kind 0 3
  · have S := Lib.hid (symsL_no hk)
    go_enter Tryz.func20, Tryz.ntmps20
    go_wp2_with (go_at_call 39; refine (isKind_any _ _).mono ?_; rintro e w' ⟨rfl, rfl⟩; simp only [hk])
    go_ret
    rw [S.out]
    exact ⟨none, 0, rfl, ⟨rfl, .inl ⟨rfl, rfl⟩⟩, Below.refl _ _⟩
  · obtain ⟨k0, k3⟩ := inB_true hk
    go_enter Tryz.func20, Tryz.ntmps20
    go_wp2_with (go_at_call 39; refine (isKind_any _ _).mono ?_; rintro e w' ⟨rfl, rfl⟩; simp only [hk])
    have o0 : World.ownsRow _ w.heap.size 58 2 _ 0 [] := owns_below (World.ownsRow_lit (base := w.heap.size) w #[] 0 (Nat.le_refl _) (by simp [maxLen]) rfl) (show Below _ _ ((w.alloc (.cells #[] 58 (0, 0))).alloc (.cells #[.bool false, .bool true] 4 (0, 0))) by (repeat (first | with_reducible assumption | exact Below.refl _ _ | (refine Below.setCell ?_ (by first | exact Nat.le_refl _ | (simp; done) | omega | (simp; omega)) _) | (refine below_drewN ?_ _) | (refine Below.drew ?_) | (refine Below.alloc ?_ (by first | exact Nat.le_refl _ | (simp; done) | omega | (simp; omega)) _) | (refine then_ ?_ (by with_reducible assumption)) | assumption | (refine then_ ?_ (by assumption)))))
    have O0 := Lib.hid o0
    clear o0
    have hk' := Lib.hid hk
    clear hk
    go_loopw [3, 13] (fun v i wr => ∃ j : Nat, j ≤ 2 ∧ i = .int .i64 j ∧ (∃ A c, v = .slice A (symsUp kind (4 * j)).length c) ∧ wr.ownsRow w.heap.size 58 2 v (symsUp kind (4 * j)).length (flat symC (symsUp kind (4 * j))) ∧ Off v (w.heap.size + 1) ∧ Bools wr (w.heap.size + 1) ∧ w.heap.size + 2 ≤ wr.heap.size ∧ Below w.heap.size w wr) (fun _ i _ => 2 - (intOf i).toNat)
    case atStart => exact ⟨0, by omega, rfl, ⟨_, _, rfl⟩, O0.out, by unfold Off Value.ownBlock; simp, ⟨by simp [go_sem], by simp [go_sem]⟩, by simp, by (repeat (first | with_reducible assumption | exact Below.refl _ _ | (refine Below.setCell ?_ (by first | exact Nat.le_refl _ | (simp; done) | omega | (simp; omega)) _) | (refine below_drewN ?_ _) | (refine Below.drew ?_) | (refine Below.alloc ?_ (by first | exact Nat.le_refl _ | (simp; done) | omega | (simp; omega)) _) | (refine then_ ?_ (by with_reducible assumption)) | assumption | (refine then_ ?_ (by assumption))))⟩
    case round =>
      obtain ⟨j, hj, rfl, ⟨A1, c1, rfl⟩, hown, hoff, hbs, hsz, hw⟩ := hrel
      have OW := Lib.hid hown
      have OFF := Lib.hid hoff
      have BS := Lib.hid hbs
      clear hown hoff
      by_cases hlt : j < 2
      · have hc := hbs.at_ hlt
        have hj0 : (0 : Int) ≤ (j : Int) := by omega
        have hj2 : (j : Int) < 2 := by omega
        clear hbs
        obtain ⟨f, F⟩ : ∃ f, Hid (f = decide (1 ≤ j)) := ⟨_, Lib.hid rfl⟩
        rw [← F.out] at hc
        go_wp2_with fail
        clear hc
        have SZ := Lib.hid hsz
        have HW := Lib.hid hw
        clear hsz hw
        go_loopw [3, 17] (fun v i wx => ∃ k : Nat, k ≤ 4 ∧ i = .int .i64 k ∧ (∃ A c, v = .slice A (symsUp kind (4 * j + k)).length c) ∧ wx.ownsRow w.heap.size 58 2 v (symsUp kind (4 * j + k)).length (flat symC (symsUp kind (4 * j + k))) ∧ Off v (w.heap.size + 1) ∧ Bools wx (w.heap.size + 1) ∧ w.heap.size + 2 ≤ wx.heap.size ∧ Below w.heap.size w wx) (fun _ i _ => 4 - (intOf i).toNat)
        case atStart => exact ⟨0, by omega, rfl, ⟨_, _, rfl⟩, OW.out, OFF.out, BS.out, SZ.out, HW.out⟩
        case round =>
          clear OW OFF BS SZ HW
          obtain ⟨k, hk, rfl, ⟨A2, c2, rfl⟩, hown, hoff, hbs, hsz, hw⟩ := hrel
          have OW := Lib.hid hown
          have OFF := Lib.hid hoff
          have BS := Lib.hid hbs
          have LN := symsUp_len kind (4 * j + k)
          clear hown hoff hbs
          by_cases hlt2 : k < 4
          · have E := sym8_jk j hlt k hlt2
            rw [← F.out] at E
            have E := Lib.hid E
            have e : kind = 0 ∨ kind = 1 ∨ kind = 2 ∨ kind = 3 := by omega
            have ej : 4 * (j + 1) = 4 * j + 4 := by omega
            have hk0 : (0 : Int) ≤ (k : Int) := by omega
            have hk4 : (k : Int) < 4 := by omega
            clear F hk' k0 k3
            rcases e with rfl | rfl | rfl | rfl
            · cases hz : ((k : Int) != 0)
              · cases f
                · have S := Lib.hid (symsUp_yes (kind := 0) (m := 4 * j + k) (by rw [E.out]; simp [okB, ofB, inB]; simpa using hz))
                  go_wp2_with (at_builtin; refine wpList_append_own_at _ rfl _ _ 64 rfl w.heap.size 58 i0 (.agg #[.int .i64 0, .bool false]) 2 16 Tryz.underlying64 hi hz0 hz1 hz2 rfl (by decide) _ _ _ rfl (OW.out.alloc _) ⟨wr.heap.size, 0, none⟩ 1 1 [.int .i64 (k : Int), .bool false] rfl rfl ?c13 ?c23 ?c33 ?c43 ?c53 ?_; (case c13 => exact World.news_of_block (cs := #[.int .i64 (k : Int), .bool false]) (t := 58) (fr := (0, 0)) (heap_alloc_new wr _)); (case c23 => simp [Value.oneCell']); (case c33 => unfold maxLen; omega); (case c43 => omega); (case c53 => (have := Below.size hw; simp only [World.size_alloc]; omega)); intro v3 w3 hown3 hg3 hne3 hat3; simp only [World.size_alloc] at hat3; have GB3 := Lib.hid hg3; have OW3 := Lib.hid hown3; have BW3 := below_append hw OW.out hg3; have NB3 := Lib.hid hat3; clear hown3 hg3 hne3 hat3)
                  go_roundw
                  case rel =>
                    obtain ⟨A3, c3, rfl⟩ := owns_slice OW3.out
                    refine ⟨k + 1, by omega, by go_num, ?_⟩
                    rw [← Nat.add_assoc, S.out, List.length_append, flat_append, E.out]
                    refine ⟨⟨_, _, rfl⟩, OW3.out, OFF.out.next (by omega) NB3.out, Bools.grown (BS.out.step (by (repeat (first | with_reducible assumption | exact Below.refl _ _ | (refine Below.setCell ?_ (by first | exact Nat.le_refl _ | (simp; done) | omega | (simp; omega)) _) | (refine below_drewN ?_ _) | (refine Below.drew ?_) | (refine Below.alloc ?_ (by first | exact Nat.le_refl _ | (simp; done) | omega | (simp; omega)) _) | (refine then_ ?_ (by with_reducible assumption)) | assumption | (refine then_ ?_ (by assumption)))))) GB3.out (by simp only [World.size_alloc]; omega) OFF.out, ?_, BW3⟩
                    have := GB3.out.size
                    simp only [World.size_alloc] at this
                    omega
                  case measure => simp [intOf]; omega
                · have S := Lib.hid (symsUp_no (kind := 0) (m := 4 * j + k) (by rw [E.out]; simp [okB, ofB, inB]))
                  go_wp2_with fail
                  go_roundw
                  case rel =>
                    refine ⟨k + 1, by omega, by go_num, ?_⟩
                    rw [← Nat.add_assoc, S.out]
                    exact ⟨⟨_, _, rfl⟩, OW.out, OFF.out, BS.out, hsz, hw⟩
                  case measure => simp [intOf]; omega
              · cases f
                all_goals
                  have S := Lib.hid (symsUp_no (kind := 0) (m := 4 * j + k) (by rw [E.out]; simp [okB, ofB, inB]; first | done | (simpa using hz)))
                  go_wp2_with fail
                  go_roundw
                  case rel =>
                    refine ⟨k + 1, by omega, by go_num, ?_⟩
                    rw [← Nat.add_assoc, S.out]
                    exact ⟨⟨_, _, rfl⟩, OW.out, OFF.out, BS.out, hsz, hw⟩
                  case measure => simp [intOf]; omega
            · cases hz : ((k : Int) != 0)
              · have S := Lib.hid (symsUp_yes (kind := 1) (m := 4 * j + k) (by rw [E.out]; simp [okB, ofB, inB]; simpa using hz))
                go_wp2_with (at_builtin; refine wpList_append_own_at _ rfl _ _ 64 rfl w.heap.size 58 i0 (.agg #[.int .i64 0, .bool false]) 2 16 Tryz.underlying64 hi hz0 hz1 hz2 rfl (by decide) _ _ _ rfl (OW.out.alloc _) ⟨wr.heap.size, 0, none⟩ 1 1 [.int .i64 (k : Int), .bool f] rfl rfl ?c13 ?c23 ?c33 ?c43 ?c53 ?_; (case c13 => exact World.news_of_block (cs := #[.int .i64 (k : Int), .bool f]) (t := 58) (fr := (0, 0)) (heap_alloc_new wr _)); (case c23 => simp [Value.oneCell']); (case c33 => unfold maxLen; omega); (case c43 => omega); (case c53 => (have := Below.size hw; simp only [World.size_alloc]; omega)); intro v3 w3 hown3 hg3 hne3 hat3; simp only [World.size_alloc] at hat3; have GB3 := Lib.hid hg3; have OW3 := Lib.hid hown3; have BW3 := below_append hw OW.out hg3; have NB3 := Lib.hid hat3; clear hown3 hg3 hne3 hat3)
                go_roundw
                case rel =>
                  obtain ⟨A3, c3, rfl⟩ := owns_slice OW3.out
                  refine ⟨k + 1, by omega, by go_num, ?_⟩
                  rw [← Nat.add_assoc, S.out, List.length_append, flat_append, E.out]
                  refine ⟨⟨_, _, rfl⟩, OW3.out, OFF.out.next (by omega) NB3.out, Bools.grown (BS.out.step (by (repeat (first | with_reducible assumption | exact Below.refl _ _ | (refine Below.setCell ?_ (by first | exact Nat.le_refl _ | (simp; done) | omega | (simp; omega)) _) | (refine below_drewN ?_ _) | (refine Below.drew ?_) | (refine Below.alloc ?_ (by first | exact Nat.le_refl _ | (simp; done) | omega | (simp; omega)) _) | (refine then_ ?_ (by with_reducible assumption)) | assumption | (refine then_ ?_ (by assumption)))))) GB3.out (by simp only [World.size_alloc]; omega) OFF.out, ?_, BW3⟩
                  have := GB3.out.size
                  simp only [World.size_alloc] at this
                  omega
                case measure => simp [intOf]; omega
              · have S := Lib.hid (symsUp_no (kind := 1) (m := 4 * j + k) (by rw [E.out]; simp [okB, ofB, inB]; simpa using hz))
                go_wp2_with fail
                go_roundw
                case rel =>
                  refine ⟨k + 1, by omega, by go_num, ?_⟩
                  rw [← Nat.add_assoc, S.out]
                  exact ⟨⟨_, _, rfl⟩, OW.out, OFF.out, BS.out, hsz, hw⟩
                case measure => simp [intOf]; omega
            · cases hz : (((k : Int) % 2) != 0)
              · have S := Lib.hid (symsUp_yes (kind := 2) (m := 4 * j + k) (by rw [E.out]; simp [okB, ofB, inB]; simpa using hz))
                go_wp2_with (at_builtin; refine wpList_append_own_at _ rfl _ _ 64 rfl w.heap.size 58 i0 (.agg #[.int .i64 0, .bool false]) 2 16 Tryz.underlying64 hi hz0 hz1 hz2 rfl (by decide) _ _ _ rfl (OW.out.alloc _) ⟨wr.heap.size, 0, none⟩ 1 1 [.int .i64 (k : Int), .bool f] rfl rfl ?c13 ?c23 ?c33 ?c43 ?c53 ?_; (case c13 => exact World.news_of_block (cs := #[.int .i64 (k : Int), .bool f]) (t := 58) (fr := (0, 0)) (heap_alloc_new wr _)); (case c23 => simp [Value.oneCell']); (case c33 => unfold maxLen; omega); (case c43 => omega); (case c53 => (have := Below.size hw; simp only [World.size_alloc]; omega)); intro v3 w3 hown3 hg3 hne3 hat3; simp only [World.size_alloc] at hat3; have GB3 := Lib.hid hg3; have OW3 := Lib.hid hown3; have BW3 := below_append hw OW.out hg3; have NB3 := Lib.hid hat3; clear hown3 hg3 hne3 hat3)
                go_roundw
                case rel =>
                  obtain ⟨A3, c3, rfl⟩ := owns_slice OW3.out
                  refine ⟨k + 1, by omega, by go_num, ?_⟩
                  rw [← Nat.add_assoc, S.out, List.length_append, flat_append, E.out]
                  refine ⟨⟨_, _, rfl⟩, OW3.out, OFF.out.next (by omega) NB3.out, Bools.grown (BS.out.step (by (repeat (first | with_reducible assumption | exact Below.refl _ _ | (refine Below.setCell ?_ (by first | exact Nat.le_refl _ | (simp; done) | omega | (simp; omega)) _) | (refine below_drewN ?_ _) | (refine Below.drew ?_) | (refine Below.alloc ?_ (by first | exact Nat.le_refl _ | (simp; done) | omega | (simp; omega)) _) | (refine then_ ?_ (by with_reducible assumption)) | assumption | (refine then_ ?_ (by assumption)))))) GB3.out (by simp only [World.size_alloc]; omega) OFF.out, ?_, BW3⟩
                  have := GB3.out.size
                  simp only [World.size_alloc] at this
                  omega
                case measure => simp [intOf]; omega
              · have S := Lib.hid (symsUp_no (kind := 2) (m := 4 * j + k) (by rw [E.out]; simp [okB, ofB, inB]; simpa using hz))
                go_wp2_with fail
                go_roundw
                case rel =>
                  refine ⟨k + 1, by omega, by go_num, ?_⟩
                  rw [← Nat.add_assoc, S.out]
                  exact ⟨⟨_, _, rfl⟩, OW.out, OFF.out, BS.out, hsz, hw⟩
                case measure => simp [intOf]; omega
            · have S := Lib.hid (symsUp_yes (kind := 3) (m := 4 * j + k) (by rw [E.out]; simp [okB, ofB, inB]))
              go_wp2_with (at_builtin; refine wpList_append_own_at _ rfl _ _ 64 rfl w.heap.size 58 i0 (.agg #[.int .i64 0, .bool false]) 2 16 Tryz.underlying64 hi hz0 hz1 hz2 rfl (by decide) _ _ _ rfl (OW.out.alloc _) ⟨wr.heap.size, 0, none⟩ 1 1 [.int .i64 (k : Int), .bool f] rfl rfl ?c13 ?c23 ?c33 ?c43 ?c53 ?_; (case c13 => exact World.news_of_block (cs := #[.int .i64 (k : Int), .bool f]) (t := 58) (fr := (0, 0)) (heap_alloc_new wr _)); (case c23 => simp [Value.oneCell']); (case c33 => unfold maxLen; omega); (case c43 => omega); (case c53 => (have := Below.size hw; simp only [World.size_alloc]; omega)); intro v3 w3 hown3 hg3 hne3 hat3; simp only [World.size_alloc] at hat3; have GB3 := Lib.hid hg3; have OW3 := Lib.hid hown3; have BW3 := below_append hw OW.out hg3; have NB3 := Lib.hid hat3; clear hown3 hg3 hne3 hat3)
              go_roundw
              case rel =>
                obtain ⟨A3, c3, rfl⟩ := owns_slice OW3.out
                refine ⟨k + 1, by omega, by go_num, ?_⟩
                rw [← Nat.add_assoc, S.out, List.length_append, flat_append, E.out]
                refine ⟨⟨_, _, rfl⟩, OW3.out, OFF.out.next (by omega) NB3.out, Bools.grown (BS.out.step (by (repeat (first | with_reducible assumption | exact Below.refl _ _ | (refine Below.setCell ?_ (by first | exact Nat.le_refl _ | (simp; done) | omega | (simp; omega)) _) | (refine below_drewN ?_ _) | (refine Below.drew ?_) | (refine Below.alloc ?_ (by first | exact Nat.le_refl _ | (simp; done) | omega | (simp; omega)) _) | (refine then_ ?_ (by with_reducible assumption)) | assumption | (refine then_ ?_ (by assumption)))))) GB3.out (by simp only [World.size_alloc]; omega) OFF.out, ?_, BW3⟩
                have := GB3.out.size
                simp only [World.size_alloc] at this
                omega
              case measure => simp [intOf]; omega
          · obtain rfl : k = 4 := by omega
            go_wp2_with fail
            go_roundw
            case rel => exact ⟨j + 1, by omega, by go_num, ⟨_, _, rfl⟩, OW.out, OFF.out, BS.out, hsz, hw⟩
            case measure => simp [intOf]; omega
      · obtain rfl : j = 2 := by omega
        go_wp2
        go_ret
        exact ⟨_, _, rfl, OW.out, hw⟩
end Go.Proofs.YthlphmojldbpkaaGreat

/- Marks on rows of the call's own, and what is held: ints. -/
namespace Go.Proofs.YthlphmojldbpkaaGreat
open Go.RowKit
attribute [local go_sem] run_store_float run_store_complex

theorem owns_grown {w w' : World} {base : Nat} {E : TypeId} {sz : Nat} {v : Value} {n : Nat} {xs : List Value} {row : Option Nat} (h : w.ownsRow base E sz v n xs) (hg : w.grownBy w' row) (hne : ∀ g, row = some g → Off v g) : w'.ownsRow base E sz v n xs := by
  refine h.kept hg ?_
  cases hv : v.ownBlock with
  | none => exact .inl rfl
  | some k =>
    refine .inr fun e => ?_
    exact hne k e.symm hv
theorem Rd.int {w : World} {B : Nat} {A : Option Addr} {n k : Nat} {xs : List Int} (h : Rd intC 1 w B A n xs) (hk : k < n) :
    ∃ b off x, A = some ⟨b, off, none⟩ ∧ b < B ∧ xs[k]? = some x ∧ w.cell? ⟨b, off + k, none⟩ = some (.int .i64 x) := by
  obtain ⟨b, off, x, e, hb, hx, hc⟩ := h.at_ hk
  have := hc 0 _ rfl
  rw [Nat.mul_one, Nat.add_zero] at this
  exact ⟨b, off, x, e, hb, hx, this⟩

end Go.Proofs.YthlphmojldbpkaaGreat

/- Tools for regions that make memory. -/
namespace Go.Proofs.YthlphmojldbpkaaGreat
open Go.RowKit

theorem startSM (W : World) (n : Nat) : (∀ b o, b < W.heap.size → (W.drewN n).drew.cell? ⟨b, o, none⟩ = W.cell? ⟨b, o, none⟩) ∧ Below W.heap.size W (W.drewN n).drew := ⟨fun _ _ _ => rfl, (below_drewN (Below.refl _ _) n).drew⟩
theorem ofBel {W w2 : World} (hb : Below W.heap.size W w2) : (∀ b o, b < W.heap.size → w2.cell? ⟨b, o, none⟩ = W.cell? ⟨b, o, none⟩) ∧ Below W.heap.size W w2 := ⟨fun b o h => hb.cell (p := ⟨b, o, none⟩) h, hb⟩
theorem keepCF_then {w w1 : World} {p : Addr} {v : Value} {G : Prop} (hb : Below w.heap.size w w1) (h : w.cell? p = some v) (hf : w.frozen? p = false) (k : w1.cell? p = some v → w1.frozen? p = false → p.block < w1.heap.size → G) : G :=
  k (keepC h hb) (keepF h hf hb) (World.block_lt_of_cell? _ _ (keepC h hb))
theorem own_set {w : World} {base g : Nat} {E : TypeId} {sz : Nat} {v : Value} {n : Nat} {xs : List Value} (h : w.ownsRow base E sz v n xs) (ho : Off v g) (j : Nat) (u : Value) : (w.setCell ⟨g, j, none⟩ u).ownsRow base E sz v n xs :=
  owns_grown (row := some g) h (grown_set (World.grownBy.refl _ _) _ _) (fun k hk => by injection hk with hk; rw [← hk]; exact ho)
theorem off_lt {w : World} {base g : Nat} {E : TypeId} {sz : Nat} {v : Value} {n : Nat} {xs : List Value} (h : w.ownsRow base E sz v n xs) (hg : g < base) : Off v g := by
  intro hv
  have := (h.lt g hv).1
  omega
theorem off_ge {w : World} {base g : Nat} {E : TypeId} {sz : Nat} {v : Value} {n : Nat} {xs : List Value} (h : w.ownsRow base E sz v n xs) (hg : w.heap.size ≤ g) : Off v g := by
  intro hv
  have := (h.lt g hv).2
  omega
theorem keepG_lt {w w1 : World} {base n : Nat} {E : TypeId} {sz : Nat} {v u : Value} {xs : List Value} {p : Addr} (h : w.cell? p = some u) (ho : w.ownsRow base E sz v n xs) (hg : w.grownBy w1 v.ownBlock) (hlt : p.block < base) : w1.cell? p = some u :=
  hg.cell h (fun e => by have := (ho.lt _ e.symm).1; omega)
end Go.Proofs.YthlphmojldbpkaaGreat

/- What slices.DeleteFunc leaves in its row; clear; rows cut shorter. -/
namespace Go.Proofs.YthlphmojldbpkaaGreat
open Go.RowKit

/-- how far a deleting loop has come: i kept, j looked at -/
def KeptI {α : Type} (keep : α → Bool) (l zs : List α) (i j : Nat) : Prop :=
  zs.length = l.length ∧ i < j ∧ j ≤ l.length ∧ zs.take i = (l.take j).filter keep ∧ ∀ k, j ≤ k → zs[k]? = l[k]?
theorem KeptI.keep {α : Type} {keep : α → Bool} {l zs : List α} {i j : Nat} {x : α} (h : KeptI keep l zs i j) (hx : l[j]? = some x) (hq : keep x = true) : KeptI keep l (zs.set i x) (i + 1) (j + 1) := by
  obtain ⟨h1, h2, h3, h4, h5⟩ := h
  have hj := (List.getElem?_eq_some_iff.1 hx).1
  refine ⟨by simpa using h1, by omega, by omega, ?_, fun k hk => ?_⟩
  · rw [List.take_add_one, List.take_add_one, hx, List.filter_append, ← h4]
    have e1 : (zs.set i x).take i = zs.take i := by
      apply List.ext_getElem?
      intro k
      by_cases hk : k < i
      · rw [List.getElem?_take_of_lt hk, List.getElem?_take_of_lt hk, List.getElem?_set_ne (by omega)]
      · rw [List.getElem?_take, List.getElem?_take, if_neg hk, if_neg hk]
    rw [e1, List.getElem?_set_self (by omega)]
    simp [hq]
  · rw [List.getElem?_set_ne (by omega)]; exact h5 k (by omega)
theorem KeptI.drop {α : Type} {keep : α → Bool} {l zs : List α} {i j : Nat} {x : α} (h : KeptI keep l zs i j) (hx : l[j]? = some x) (hq : keep x = false) : KeptI keep l zs i (j + 1) := by
  obtain ⟨h1, h2, h3, h4, h5⟩ := h
  have hj := (List.getElem?_eq_some_iff.1 hx).1
  refine ⟨h1, by omega, by omega, ?_, fun k hk => h5 k (by omega)⟩
  rw [List.take_add_one, hx, List.filter_append, ← h4]
  simp [hq]
theorem KeptI.done {α : Type} {keep : α → Bool} {l zs : List α} {i j : Nat} (h : KeptI keep l zs i j) (hj : j = l.length) : zs.take i = l.filter keep ∧ (l.filter keep).length = i := by
  obtain ⟨h1, h2, h3, h4, h5⟩ := h
  rw [hj, List.take_length] at h4
  refine ⟨h4, ?_⟩
  rw [← h4, List.length_take]; omega

theorem flat_take {α : Type} {enc : α → List Value} {sz : Nat} (he : ∀ x, (enc x).length = sz) : ∀ (xs : List α) (i : Nat), (flat enc xs).take (i * sz) = flat enc (xs.take i)
  | [], i => by simp [flat]
  | x :: xs, 0 => by simp [flat]
  | x :: xs, i + 1 => by
    rw [List.take_succ_cons, flat_cons, flat_cons, List.take_append, he x, ← flat_take he xs i, List.take_of_length_le (by rw [he x]; rw [Nat.add_mul]; omega)]
    congr 2
    rw [Nat.add_mul]; omega
theorem own_take {w : World} {base : Nat} {E : TypeId} {sz g n c : Nat} {xs : List Value} (h : w.ownsRow base E sz (.slice (some ⟨g, 0, none⟩) n c) n xs) {i : Nat} (hi : i ≤ n) :
    w.ownsRow base E sz (.slice (some ⟨g, 0, none⟩) i c) i (xs.take (i * sz)) := by
  have hm : i * sz ≤ n * sz := Nat.mul_le_mul_right _ hi
  rcases h.2 with ⟨h', _⟩ | ⟨g', cap', cur, h', hb, hg, hnc, hcm, hcs, htake⟩
  · simp at h'
  · simp only [Value.slice.injEq, Option.some.injEq, Addr.mk.injEq, and_true, true_and] at h'
    obtain ⟨rfl, rfl⟩ := h'
    refine ⟨by rw [List.length_take, h.1]; omega, .inr ⟨g, c, cur, rfl, hb, hg, by omega, hcm, hcs, ?_⟩⟩
    rw [← htake, List.take_take, Nat.min_eq_left hm]
theorem own_beyond {w : World} {base : Nat} {E : TypeId} {sz g n c : Nat} {xs : List Value} (h : w.ownsRow base E sz (.slice (some ⟨g, 0, none⟩) n c) n xs) {j : Nat} (hj : n * sz ≤ j) (u : Value) :
    (w.setCell ⟨g, j, none⟩ u).ownsRow base E sz (.slice (some ⟨g, 0, none⟩) n c) n xs := by
  have := (h.stored j u).1
  rwa [List.set_eq_of_length_le (by rw [h.1]; exact hj)] at this
theorem own_beyonds {base : Nat} {E : TypeId} {sz g n c : Nat} {xs : List Value} : ∀ (us : List Value) (j : Nat) (w : World), w.ownsRow base E sz (.slice (some ⟨g, 0, none⟩) n c) n xs → n * sz ≤ j →
    (w.setCells g j us).ownsRow base E sz (.slice (some ⟨g, 0, none⟩) n c) n xs
  | [], _, _, h, _ => h
  | u :: us, j, w, h, hj => own_beyonds us (j + 1) _ (own_beyond h hj u) (by omega)
theorem owns_slice_at {w : World} {base : Nat} {E : TypeId} {sz n c : Nat} {A : Option Addr} {xs : List Value} (h : w.ownsRow base E sz (.slice A n c) n xs) (h0 : 0 < n) : ∃ g, A = some ⟨g, 0, none⟩ ∧ n ≤ c ∧ c ≤ maxLen := by
  rcases h.2 with ⟨_, h0'⟩ | ⟨ga, cap, _, h1, _, _, h2, h3, _⟩
  · omega
  · injection h1 with h1 h4 h5
    subst h5
    exact ⟨ga, h1, h2, h3⟩

theorem zeroCells_len (z : Array Value) (n : Nat) : (Builtin.zeroCells z n).toList.length = n * z.size := by simp [Builtin.zeroCells]
theorem run_clear_row {P : Program} (w : World) (t e ty : TypeId) (z : Value) (ht : P.underlying t = some (.slice e)) (hv : ∀ w, (zeroValue e).run P w = .ok z w) (b o n c : Nat) (hn : 0 < n) (h1 : ∀ v ∈ (Builtin.zeroCells z.cells n).toList, v.oneCell' = true)
    (hc : ∀ j, j < n * z.cells.size → (w.cell? ⟨b, o + j, none⟩).isSome = true) (hf : ∀ j, j < n * z.cells.size → w.frozen? ⟨b, o + j, none⟩ = false) :
    (Builtin.clear_ #[t] ty #[.slice (some ⟨b, o, none⟩) n c]).run P w = .ok (.tuple #[]) (w.setCells b o (Builtin.zeroCells z.cells n).toList) := by
  have hst := run_storeCells_cells (P := P) b o (Builtin.zeroCells z.cells n).toList 0 w (by rw [zeroCells_len]; simpa using hc) (by rw [zeroCells_len]; simpa using hf) h1
  simp only [Nat.add_zero] at hst
  obtain ⟨m, rfl⟩ : ∃ m, n = m + 1 := ⟨n - 1, by omega⟩
  simp [Builtin.clear_, run_underlying ht, hv, hst]
end Go.Proofs.YthlphmojldbpkaaGreat

/- InWedge, FoldPoint, plus: the program's. -/
namespace Go.Proofs.YthlphmojldbpkaaGreat
open Go.RowKit
attribute [local go_sem] run_store_float run_store_complex

abbrev Pt := Nat × Nat
def plusP (a b : Pt) : Pt := (addB a.1 b.1, addB a.2 b.2)
def sideB (kind : Int) (p : Pt) : Bool := if kind = 0 then true else if kind = 1 then geB p.2 0 else if kind = 2 then geB p.1 0 && geB p.2 0 else if kind = 3 then leB 0 p.2 && leB p.2 p.1 else false
def wedgeB (kind : Int) (p : Pt) : Bool := pointB p.1 p.2 && sideB kind p

theorem plus_any (a b : Pt) (w : World) :
    Calls Tryz.prog 81 #[.complex .f32 a.1 a.2, .complex .f32 b.1 b.2] w fun e w' => e = .returned (.complex .f32 (plusP a b).1 (plusP a b).2) ∧ Dr w w' := by
  go_enter Tryz.func81, Tryz.ntmps81
  go_wp2_with fail
  refine (sum_any _ _ _).mono ?_
  rintro e w' ⟨rfl, n, rfl⟩
  go_wp2_with fail
  refine (sum_any _ _ _).mono ?_
  rintro e w' ⟨rfl, k, rfl⟩
  go_wp2
  go_ret
  exact ⟨rfl, n + k, rfl⟩

set_option maxHeartbeats 2000000 in
theorem inWedge_any (kind : Int) (p : Pt) (w : World) :
    Calls Tryz.prog 14 #[.int .i64 kind, .complex .f32 p.1 p.2] w fun e w' => e = .returned (.bool (wedgeB kind p)) ∧ w = w' := by
  cases h0 : pointB p.1 p.2
  · have R := Lib.hid (show wedgeB kind p = false by unfold wedgeB; rw [h0]; rfl)
    go_enter Tryz.func14, Tryz.ntmps14
    go_wp2_with (go_at_call 42; refine (isPoint_any _ _ _).mono ?_; rintro e w' ⟨rfl, rfl⟩; simp only [h0])
    go_ret
    exact ⟨by rw [R.out]; rfl, rfl⟩
  · have R := Lib.hid (show wedgeB kind p = sideB kind p by unfold wedgeB; rw [h0]; rfl)
    by_cases k0 : kind = 0
    · subst k0
      go_enter Tryz.func14, Tryz.ntmps14
      go_wp2_with (go_at_call 42; refine (isPoint_any _ _ _).mono ?_; rintro e w' ⟨rfl, rfl⟩; simp only [h0])
      go_ret
      exact ⟨by rw [R.out]; rfl, rfl⟩
    · by_cases k1 : kind = 1
      · subst k1
        go_enter Tryz.func14, Tryz.ntmps14
        go_wp2_with (go_at_call 42; refine (isPoint_any _ _ _).mono ?_; rintro e w' ⟨rfl, rfl⟩; simp only [h0])
        go_ret
        exact ⟨by rw [R.out]; rfl, rfl⟩
      · by_cases k2 : kind = 2
        · subst k2
          cases h1 : geB p.1 0
          all_goals
            have S := Lib.hid (show sideB 2 p = (geB p.1 0 && geB p.2 0) from rfl)
            have e1 : (FloatKind.f32.format.order p.1 0 == some .gt || FloatKind.f32.format.order p.1 0 == some .eq) = geB p.1 0 := rfl
            rw [h1] at e1
            have H1 := Lib.hid h1
            clear h1
            go_enter Tryz.func14, Tryz.ntmps14
            go_wp2_with (go_at_call 42; refine (isPoint_any _ _ _).mono ?_; rintro e w' ⟨rfl, rfl⟩; simp only [h0])
            go_ret
            exact ⟨by rw [R.out, S.out, H1.out]; rfl, rfl⟩
        · by_cases k3 : kind = 3
          · subst k3
            cases h1 : leB 0 p.2
            all_goals
              have S := Lib.hid (show sideB 3 p = (leB 0 p.2 && leB p.2 p.1) from rfl)
              have e1 : (FloatKind.f32.format.order 0 p.2 == some .lt || FloatKind.f32.format.order 0 p.2 == some .eq) = leB 0 p.2 := rfl
              rw [h1] at e1
              have H1 := Lib.hid h1
              clear h1
              go_enter Tryz.func14, Tryz.ntmps14
              go_wp2_with (go_at_call 42; refine (isPoint_any _ _ _).mono ?_; rintro e w' ⟨rfl, rfl⟩; simp only [h0])
              go_ret
              exact ⟨by rw [R.out, S.out, H1.out]; rfl, rfl⟩
          · have S := Lib.hid (show sideB kind p = false by simp [sideB, k0, k1, k2, k3])
            go_enter Tryz.func14, Tryz.ntmps14
            go_wp2_with (go_at_call 42; refine (isPoint_any _ _ _).mono ?_; rintro e w' ⟨rfl, rfl⟩; simp only [h0])
            go_ret
            exact ⟨by rw [R.out, S.out]; rfl, rfl⟩

def foldG (kind : Int) (z : Pt) (l : List (Int × Bool)) : Pt × (Int × Bool) × Bool := match l.find? (fun g => wedgeB kind (actP g.1 g.2 z.1 z.2)) with
  | some g => (actP g.1 g.2 z.1 z.2, g, true)
  | none => ((0, 0), (0, false), false)
def foldP (kind : Int) (z : Pt) : Pt × (Int × Bool) × Bool := if pointB z.1 z.2 then foldG kind z (symsL kind) else ((0, 0), (0, false), false)
theorem foldG_hit {kind : Int} {z : Pt} {l : List (Int × Bool)} {k : Nat} {g : Int × Bool} (hx : l[k]? = some g) (hall : ∀ (i : Nat) y, i < k → l[i]? = some y → wedgeB kind (actP y.1 y.2 z.1 z.2) = false) (h : wedgeB kind (actP g.1 g.2 z.1 z.2) = true) : foldG kind z l = (actP g.1 g.2 z.1 z.2, g, true) := by
  unfold foldG
  have : l.find? (fun g => wedgeB kind (actP g.1 g.2 z.1 z.2)) = some g := by
    have hk := (List.getElem?_eq_some_iff.1 hx)
    obtain ⟨hk1, hk2⟩ := hk
    rw [List.find?_eq_some_iff_getElem]
    exact ⟨h, k, hk1, hk2, fun j hj => by simpa using hall j _ hj (List.getElem?_eq_getElem (by omega))⟩
  rw [this]
theorem foldG_miss {kind : Int} {z : Pt} {l : List (Int × Bool)} (hall : ∀ (i : Nat) y, l[i]? = some y → wedgeB kind (actP y.1 y.2 z.1 z.2) = false) : foldG kind z l = ((0, 0), (0, false), false) := by
  unfold foldG
  have : l.find? (fun g => wedgeB kind (actP g.1 g.2 z.1 z.2)) = none := by
    rw [List.find?_eq_none]
    intro x hx
    obtain ⟨i, hi⟩ := List.getElem?_of_mem hx
    simp [hall i x hi]
  rw [this]
def foldV (r : Pt × (Int × Bool) × Bool) : Value := .tuple #[.complex .f32 r.1.1 r.1.2, .agg #[.int .i64 r.2.1.1, .bool r.2.1.2], .bool r.2.2]

set_option maxRecDepth 100000 in
set_option maxHeartbeats 4000000 in
theorem foldPoint_any (kind : Int) (z : Pt) (w : World) :
    Calls Tryz.prog 16 #[.int .i64 kind, .complex .f32 z.1 z.2] w fun e w' => e = .returned (foldV (foldP kind z)) ∧ Below w.heap.size w w' := by
  cases h0 : pointB z.1 z.2
  · have R := Lib.hid (show foldP kind z = ((0, 0), (0, false), false) by unfold foldP; rw [h0]; rfl)
    go_enter Tryz.func16, Tryz.ntmps16
    go_wp2_with (go_at_call 42; refine (isPoint_any _ _ _).mono ?_; rintro e w' ⟨rfl, rfl⟩; simp only [h0])
    exact bodyPost_ret (v := foldV ((0, 0), (0, false), false)) (by simp [results, Tryz.results16, go_sem, foldV]) rfl ⟨by rw [R.out], by (repeat (first | with_reducible assumption | exact Below.refl _ _ | (refine Below.setCell ?_ (by first | exact Nat.le_refl _ | (simp; done) | omega | (simp; omega)) _) | (refine below_drewN ?_ _) | (refine Below.drew ?_) | (refine Below.alloc ?_ (by first | exact Nat.le_refl _ | (simp; done) | omega | (simp; omega)) _) | (refine then_ ?_ (by with_reducible assumption)) | assumption | (refine then_ ?_ (by assumption))))⟩
  · obtain ⟨l, hl⟩ : ∃ l, l = symsL kind := ⟨_, rfl⟩
    have h8 : l.length ≤ 8 := by rw [hl]; exact symsUp_len _ _
    have ks := fun w => symsOf_any kind w
    have R := Lib.hid (show foldP kind z = foldG kind z l by unfold foldP; rw [h0, hl]; rfl)
    rw [← hl] at ks
    have KS := Lib.hid ks
    clear ks hl
    go_enter Tryz.func16, Tryz.ntmps16
    go_wp2_with (go_at_call 42; refine (isPoint_any _ _ _).mono ?_; rintro e w' ⟨rfl, rfl⟩; simp only [h0])
    obtain ⟨W, hWe⟩ : ∃ W, W = w.alloc (Obj.cells #[.int .i64 0, .bool false] 58) := ⟨_, rfl⟩
    have hW : Below w.heap.size w W := by rw [hWe]; (repeat (first | with_reducible assumption | exact Below.refl _ _ | (refine Below.setCell ?_ (by first | exact Nat.le_refl _ | (simp; done) | omega | (simp; omega)) _) | (refine below_drewN ?_ _) | (refine Below.drew ?_) | (refine Below.alloc ?_ (by first | exact Nat.le_refl _ | (simp; done) | omega | (simp; omega)) _) | (refine then_ ?_ (by with_reducible assumption)) | assumption | (refine then_ ?_ (by assumption))))
    have zW : w.heap.size < W.heap.size := by rw [hWe]; simp
    have q0 : W.cell? ⟨w.heap.size, 0, none⟩ = some (.int .i64 0) := by rw [hWe]; simp [go_sem]
    have q1 : W.cell? ⟨w.heap.size, 1, none⟩ = some (.bool false) := by rw [hWe]; simp [go_sem]
    have f0 : W.frozen? ⟨w.heap.size, 0, none⟩ = false := by rw [hWe]; simp [go_sem]
    have f1 : W.frozen? ⟨w.heap.size, 1, none⟩ = false := by rw [hWe]; simp [go_sem]
    rw [← hWe]
    clear hWe
    refine (KS.out _).mono ?_
    rintro e w1 ⟨G, cG, rfl, ho1, hb1⟩
    have r1 := Rd.of_own symC_len rfl ho1
    have f0 := keepF q0 f0 hb1
    have f1 := keepF q1 f1 hb1
    have q0 := keepC q0 hb1
    have q1 := keepC q1 hb1
    have hW1 := then_ hW hb1
    have lw : w.heap.size < w1.heap.size := World.block_lt_of_cell? _ _ q0
    clear ho1 hb1 hW
    go_wp2_with fail
    go_loopw [17] (fun i wr => ∃ k : Nat, k ≤ l.length ∧ i = .int .i64 k ∧ (∀ (i : Nat) y, i < k → l[i]? = some y → wedgeB kind (actP y.1 y.2 z.1 z.2) = false) ∧ Below w1.heap.size w1 wr) (fun i _ => l.length - (intOf i).toNat)
    case atStart => exact ⟨0, Nat.zero_le _, rfl, fun i y h => by omega, Below.refl _ _⟩
    case round =>
      obtain ⟨k, hk, rfl, hall, hw⟩ := hrel
      have HALL := Lib.hid hall
      have f0 := keepF q0 f0 hw
      have f1 := keepF q1 f1 hw
      have q0 := keepC q0 hw
      have q1 := keepC q1 hw
      have hWr := then_ hW1 hw
      clear hall
      by_cases hlt : k < l.length
      · obtain ⟨b, off, t, f, rfl, hbl, hx, c0, c1⟩ := (r1.below hw).sym hlt
        have HX := Lib.hid hx
        have hki : (k : Int) < (l.length : Int) := by omega
        have hk0 : (0 : Int) ≤ (k : Int) := by omega
        obtain ⟨q, hq⟩ : ∃ q, q = actP t f z.1 z.2 := ⟨_, rfl⟩
        have HQ := Lib.hid hq
        have ka := fun w => actSym_any t f z.1 z.2 w
        rw [← hq] at ka
        have KA := Lib.hid ka
        clear hx ka hq
        go_wp2_with fail
        obtain ⟨V, hVe⟩ : ∃ V, V = wr.alloc (Obj.cells #[.int .i64 t, .bool f] 58) := ⟨_, rfl⟩
        have hV : Below wr.heap.size wr V := by rw [hVe]; (repeat (first | with_reducible assumption | exact Below.refl _ _ | (refine Below.setCell ?_ (by first | exact Nat.le_refl _ | (simp; done) | omega | (simp; omega)) _) | (refine below_drewN ?_ _) | (refine Below.drew ?_) | (refine Below.alloc ?_ (by first | exact Nat.le_refl _ | (simp; done) | omega | (simp; omega)) _) | (refine then_ ?_ (by with_reducible assumption)) | assumption | (refine then_ ?_ (by assumption))))
        have v0 : V.cell? ⟨wr.heap.size, 0, none⟩ = some (.int .i64 t) := by rw [hVe]; simp [go_sem]
        have v1 : V.cell? ⟨wr.heap.size, 1, none⟩ = some (.bool f) := by rw [hVe]; simp [go_sem]
        have hne : ¬ wr.heap.size = w.heap.size := by have := World.block_lt_of_cell? _ _ q0; dsimp only at this; omega
        have hne' : ¬ w.heap.size = wr.heap.size := fun e => hne e.symm
        rw [← hVe]
        clear hVe
        refine (KA.out _).mono ?_
        rintro e w2 ⟨rfl, hb2⟩
        have f0 := keepF (keepC q0 hV) (keepF q0 f0 hV) hb2
        have f1 := keepF (keepC q1 hV) (keepF q1 f1 hV) hb2
        have q0 := keepC (keepC q0 hV) hb2
        have q1 := keepC (keepC q1 hV) hb2
        have v0 := keepC v0 hb2
        have v1 := keepC v1 hb2
        have hB2 := then_ (then_ hw hV) hb2
        have hW2 := then_ hW1 hB2
        simp only [cxV]
        clear hV hb2 c0 c1
        go_wp2_with fail
        refine (inWedge_any kind q _).mono ?_
        cases hc : wedgeB kind q
        · rintro e w' ⟨rfl, rfl⟩
          have HC := Lib.hid hc
          clear hc
          go_wp2
          go_roundw
          case rel =>
            refine ⟨k + 1, by omega, by go_num, fun i y hi j1 => ?_, hB2⟩
            by_cases e : i = k
            · subst e
              rw [HX.out] at j1
              injection j1 with j1
              subst j1
              show wedgeB kind (actP t f z.1 z.2) = false
              rw [← HQ.out]
              exact HC.out
            · exact HALL.out i y (by omega) j1
          case measure => simp [intOf]; omega
        · rintro e w' ⟨rfl, rfl⟩
          have HF := Lib.hid (foldG_hit (z := z) HX.out HALL.out (show wedgeB kind (actP t f z.1 z.2) = true by rw [← HQ.out]; exact hc))
          clear hc
          go_wp2_with fail
          go_region_law (fail)
          all_goals
            go_wp2
            exact bodyPost_ret (v := foldV (q, (t, f), true)) (by simp [results, Tryz.results16, go_sem, foldV, *]) rfl ⟨by rw [R.out, HF.out, HQ.out], by (repeat (first | with_reducible assumption | exact Below.refl _ _ | (refine Below.setCell ?_ (by first | exact Nat.le_refl _ | (simp; done) | omega | (simp; omega)) _) | (refine below_drewN ?_ _) | (refine Below.drew ?_) | (refine Below.alloc ?_ (by first | exact Nat.le_refl _ | (simp; done) | omega | (simp; omega)) _) | (refine then_ ?_ (by with_reducible assumption)) | assumption | (refine then_ ?_ (by assumption))))⟩
      · obtain rfl : k = l.length := by omega
        have HF := Lib.hid (foldG_miss (z := z) (fun i y h1 => HALL.out i y (List.getElem?_eq_some_iff.1 h1).1 h1))
        go_wp2
        exact bodyPost_ret (v := foldV ((0, 0), (0, false), false)) (by simp [results, Tryz.results16, go_sem, foldV, *]) rfl ⟨by rw [R.out, HF.out], by (repeat (first | with_reducible assumption | exact Below.refl _ _ | (refine Below.setCell ?_ (by first | exact Nat.le_refl _ | (simp; done) | omega | (simp; omega)) _) | (refine below_drewN ?_ _) | (refine Below.drew ?_) | (refine Below.alloc ?_ (by first | exact Nat.le_refl _ | (simp; done) | omega | (simp; omega)) _) | (refine then_ ?_ (by with_reducible assumption)) | assumption | (refine then_ ?_ (by assumption))))⟩
end Go.Proofs.YthlphmojldbpkaaGreat

/- IsColour, both versions. -/
namespace Go.Proofs.YthlphmojldbpkaaGreat
open Go.RowKit

def partB (x : Nat) : Bool := geB x 0 && leB x 1065353216
def colB (c : Col) : Bool := partB c.1 && (partB c.2.1 && partB c.2.2)

theorem part_fin {x : Nat} (h : partB x = true) : finB x = true := by
  rcases three x with h1 | h1 | h1
  · exact h1
  · exfalso
    have e := read_inf h1
    have r1 : Ieee.single.read 1065353216 = .number false 8388608 (-23) := by decide
    simp only [partB, geB, leB, ordB, Ieee.Format.order, e, r1, read_zero, Ieee.Datum.order] at h
    cases hs : (x / 2147483648 % 2 == 1) <;> rw [hs] at h <;> revert h <;> decide
  · exfalso
    unfold partB geB leB at h
    rw [ord_nan_left h1] at h
    simp at h

theorem isPart_any (x : Nat) (w : World) :
    Calls Tryz.prog 95 #[.float .f32 x] w fun e w' => e = .returned (.bool (partB x)) ∧ w = w' := by
  have r : partB x = (geB x 0 && leB x 1065353216) := rfl
  cases h1 : geB x 0
  all_goals
    rw [h1] at r
    have e1 : (FloatKind.f32.format.order x 0 == some .gt || FloatKind.f32.format.order x 0 == some .eq) = geB x 0 := rfl
    rw [h1] at e1
    have R := Lib.hid r
    clear r h1
    go_enter Tryz.func95, Tryz.ntmps95
    go_wp2
    go_ret
    exact ⟨by rw [R.out]; simp [leB, ordB, FloatKind.format], rfl⟩

theorem l2Part_any (x : Nat) (w : World) :
    Calls Tryz.prog 148 #[.float .f32 x] w fun e w' => e = .returned (.bool (partB x)) ∧ Dr w w' := by
  cases hf : finB x
  · have hp : partB x = false := by
      cases h : partB x
      · rfl
      · rw [part_fin h] at hf; cases hf
    have R := Lib.hid hp
    clear hp
    go_enter Tryz.func148, Tryz.ntmps148
    go_wp2_with (go_at_call 127; refine (l1Single_any _ _).mono ?_; rintro e w' ⟨rfl, n, rfl⟩; simp only [hf])
    go_ret
    exact ⟨by rw [R.out]; rfl, Dr.drewN _ _⟩
  · have r : partB x = (geB x 0 && leB x 1065353216) := rfl
    cases h1 : geB x 0
    all_goals
      rw [h1] at r
      have e1 : (FloatKind.f32.format.order x 0 == some .gt || FloatKind.f32.format.order x 0 == some .eq) = geB x 0 := rfl
      rw [h1] at e1
      have R := Lib.hid r
      clear r h1
      go_enter Tryz.func148, Tryz.ntmps148
      go_wp2_with (go_at_call 127; refine (l1Single_any _ _).mono ?_; rintro e w' ⟨rfl, n, rfl⟩; simp only [hf])
      go_ret
      exact ⟨by rw [R.out]; simp [leB, ordB, FloatKind.format], Dr.drewN _ _⟩

set_option maxHeartbeats 1000000 in
theorem isColour_any (r g b : Nat) (w : World) :
    Calls Tryz.prog 52 #[.agg #[.float .f32 r, .float .f32 g, .float .f32 b]] w fun e w' => e = .returned (.bool (colB (r, g, b))) ∧ Below w.heap.size w w' := by
  have q : colB (r, g, b) = (partB r && (partB g && partB b)) := rfl
  cases h1 : partB r <;> cases h2 : partB g
  all_goals
    rw [h1, h2] at q
    have R := Lib.hid q
    clear q
    go_enter Tryz.func52, Tryz.ntmps52
    go_wp2_with (go_at_call 95; refine (isPart_any _ _).mono ?_; rintro e w' ⟨rfl, rfl⟩; try simp only [h1, h2])
    go_ret
    exact ⟨by rw [R.out]; simp, by (repeat (first | with_reducible assumption | exact Below.refl _ _ | (refine Below.setCell ?_ (by first | exact Nat.le_refl _ | (simp; done) | omega | (simp; omega)) _) | (refine below_drewN ?_ _) | (refine Below.drew ?_) | (refine Below.alloc ?_ (by first | exact Nat.le_refl _ | (simp; done) | omega | (simp; omega)) _) | (refine then_ ?_ (by with_reducible assumption)) | assumption | (refine then_ ?_ (by assumption))))⟩

set_option maxHeartbeats 1000000 in
theorem specIsColour_any (r g b : Nat) (w : World) :
    Calls Tryz.prog 128 #[.agg #[.float .f32 r, .float .f32 g, .float .f32 b]] w fun e w' => e = .returned (.bool (colB (r, g, b))) ∧ Below w.heap.size w w' := by
  have q : colB (r, g, b) = (partB r && (partB g && partB b)) := rfl
  cases h1 : partB r <;> cases h2 : partB g
  all_goals
    rw [h1, h2] at q
    have R := Lib.hid q
    clear q
    go_enter Tryz.func128, Tryz.ntmps128
    go_wp2_with (go_at_call 148; refine (l2Part_any _ _).mono ?_; rintro e w' ⟨rfl, n, rfl⟩; try simp only [h1, h2])
    go_ret
    exact ⟨by rw [R.out]; simp, by (repeat (first | with_reducible assumption | exact Below.refl _ _ | (refine Below.setCell ?_ (by first | exact Nat.le_refl _ | (simp; done) | omega | (simp; omega)) _) | (refine below_drewN ?_ _) | (refine Below.drew ?_) | (refine Below.alloc ?_ (by first | exact Nat.le_refl _ | (simp; done) | omega | (simp; omega)) _) | (refine then_ ?_ (by with_reducible assumption)) | assumption | (refine then_ ?_ (by assumption))))⟩
end Go.Proofs.YthlphmojldbpkaaGreat

/- Beads and tumbles: IsTumble, Clone, cloneTumble; the program's. -/
namespace Go.Proofs.YthlphmojldbpkaaGreat
open Go.RowKit
attribute [local go_sem] run_store_float run_store_complex

abbrev Bd := Pt × Pt
def bdC (b : Bd) : List Value := [.complex .f32 b.1.1 b.1.2, .complex .f32 b.2.1 b.2.2]
theorem bdC_len (b : Bd) : (bdC b).length = 2 := rfl
def okBd (mir : Int) (b : Bd) : Bool := wedgeB mir b.1 && pointB b.2.1 b.2.2
def tumB (mir : Int) (gr : Pt) (loss : Nat) (bs : List Bd) : Bool := inB mir 0 3 && (pointB gr.1 gr.2 && (partB loss && (decide (bs.length ≤ 8) && bs.all (okBd mir))))
theorem Rd.bd {w : World} {B : Nat} {A : Option Addr} {n k : Nat} {xs : List Bd} (h : Rd bdC 2 w B A n xs) (hk : k < n) :
    ∃ b off a c, A = some ⟨b, off, none⟩ ∧ b < B ∧ xs[k]? = some (a, c) ∧ w.cell? ⟨b, off + k * 2, none⟩ = some (.complex .f32 a.1 a.2) ∧ w.cell? ⟨b, off + k * 2 + 1, none⟩ = some (.complex .f32 c.1 c.2) := by
  obtain ⟨b, off, ⟨a, c⟩, e, hb, hx, hc⟩ := h.at_ hk
  exact ⟨b, off, a, c, e, hb, hx, hc 0 _ rfl, hc 1 _ rfl⟩

set_option maxHeartbeats 2000000 in
theorem tumF_any (a v : Pt) (g : Nat) (mir : Int) (w : World) (h0 : w.cell? ⟨g, 0, none⟩ = some (.int .i64 mir)) :
    Calls Tryz.prog 107 #[.agg #[.complex .f32 a.1 a.2, .complex .f32 v.1 v.2], .pointer (some ⟨g, 0, none⟩)] w fun e w' => e = .returned (.bool (!(okBd mir (a, v)))) ∧ Below w.heap.size w w' := by
  have lb := World.block_lt_of_cell? _ _ h0
  dsimp only at lb
  have n1 : ¬ w.heap.size = g := by omega
  have n2 : ¬ g = w.heap.size := by omega
  cases h1 : wedgeB mir a
  · have R := Lib.hid (show okBd mir (a, v) = false by unfold okBd; rw [h1]; rfl)
    go_enter Tryz.func107, Tryz.ntmps107
    go_wp2_with (go_at_call 14; refine (inWedge_any _ _ _).mono ?_; rintro e w' ⟨rfl, rfl⟩; simp only [h1])
    go_ret
    exact ⟨by rw [R.out]; rfl, by (repeat (first | with_reducible assumption | exact Below.refl _ _ | (refine Below.setCell ?_ (by first | exact Nat.le_refl _ | (simp; done) | omega | (simp; omega)) _) | (refine below_drewN ?_ _) | (refine Below.drew ?_) | (refine Below.alloc ?_ (by first | exact Nat.le_refl _ | (simp; done) | omega | (simp; omega)) _) | (refine then_ ?_ (by with_reducible assumption)) | assumption | (refine then_ ?_ (by assumption))))⟩
  · have R := Lib.hid (show okBd mir (a, v) = pointB v.1 v.2 by unfold okBd; rw [h1]; rfl)
    go_enter Tryz.func107, Tryz.ntmps107
    go_wp2_with (first
      | (go_at_call 14; refine (inWedge_any _ _ _).mono ?_; rintro e w' ⟨rfl, rfl⟩; simp only [h1])
      | (go_at_call 42; refine (isPoint_any _ _ _).mono ?_; rintro e w' ⟨rfl, rfl⟩))
    go_ret
    exact ⟨by rw [R.out]; rfl, by (repeat (first | with_reducible assumption | exact Below.refl _ _ | (refine Below.setCell ?_ (by first | exact Nat.le_refl _ | (simp; done) | omega | (simp; omega)) _) | (refine below_drewN ?_ _) | (refine Below.drew ?_) | (refine Below.alloc ?_ (by first | exact Nat.le_refl _ | (simp; done) | omega | (simp; omega)) _) | (refine then_ ?_ (by with_reducible assumption)) | assumption | (refine then_ ?_ (by assumption))))⟩

theorem allX_no {α : Type} {ls : List α} {p : α → Bool} {i : Nat} {x : α} (hx : ls[i]? = some x) (h : p x = false) : ls.all p = false := by
  rw [List.all_eq_false]
  exact ⟨x, List.mem_of_getElem? hx, by simp [h]⟩
theorem allX_yes {α : Type} {ls : List α} {p : α → Bool} (h : ∀ (i : Nat) x, ls[i]? = some x → p x = true) : ls.all p = true := by
  rw [List.all_eq_true]
  intro x hx
  obtain ⟨i, hi⟩ := List.getElem?_of_mem hx
  exact h i x hi

set_option maxRecDepth 100000 in
set_option maxHeartbeats 4000000 in
theorem indexBd_any (g : Nat) (mir : Int) (H : Option Addr) (p pc : Nat) (ls : List Bd) (w : World) (hp : p ≤ 1048576) (h0 : w.cell? ⟨g, 0, none⟩ = some (.int .i64 mir)) (hs : Rd bdC 2 w w.heap.size H p ls) :
    Calls Tryz.prog 139 #[.slice H p pc, .func (.func 107) #[] #[.pointer (some ⟨g, 0, none⟩)]] w fun e w' => (∃ i : Int, e = .returned (.int .i64 i) ∧ decide (0 ≤ i) = !(ls.all (okBd mir))) ∧ Below w.heap.size w w' := by
  go_enter Tryz.func139, Tryz.ntmps139
  go_wp2
  go_loopw [5, 8] (fun _ i wr => ∃ k : Nat, k ≤ p ∧ i = .int .i64 k ∧ (∀ (i : Nat) x, i < k → ls[i]? = some x → okBd mir x = true) ∧ Below w.heap.size w wr) (fun _ i _ => p - (intOf i).toNat)
  case atStart => exact ⟨0, Nat.zero_le _, rfl, fun i x h => by omega, Below.refl _ _⟩
  case round =>
    obtain ⟨k, hk, rfl, hall, hw⟩ := hrel
    have HALL := Lib.hid hall
    clear hall
    by_cases hlt : k < p
    · obtain ⟨bb, off, a, v, rfl, hbl, hx, c0, c1⟩ := (hs.below hw).bd hlt
      have hki : (k : Int) < (p : Int) := by omega
      have hk0 : (0 : Int) ≤ (k : Int) := by omega
      have HX := Lib.hid hx
      clear hx
      have d0 := keepC h0 hw
      cases hq : okBd mir (a, v)
      · go_wp2_with (go_at_call 107; refine (tumF_any a v g mir _ (by assumption)).mono ?_; rintro e w1 ⟨rfl, hb1⟩; simp only [hq])
        go_ret
        exact ⟨⟨_, rfl, by rw [allX_no HX.out hq]; simp⟩, by (repeat (first | with_reducible assumption | exact Below.refl _ _ | (refine Below.setCell ?_ (by first | exact Nat.le_refl _ | (simp; done) | omega | (simp; omega)) _) | (refine below_drewN ?_ _) | (refine Below.drew ?_) | (refine Below.alloc ?_ (by first | exact Nat.le_refl _ | (simp; done) | omega | (simp; omega)) _) | (refine then_ ?_ (by with_reducible assumption)) | assumption | (refine then_ ?_ (by assumption))))⟩
      · go_wp2_with (go_at_call 107; refine (tumF_any a v g mir _ (by assumption)).mono ?_; rintro e w1 ⟨rfl, hb1⟩; simp only [hq])
        go_roundw
        case rel =>
          refine ⟨k + 1, by omega, by go_num, fun i x hi j1 => ?_, by (repeat (first | with_reducible assumption | exact Below.refl _ _ | (refine Below.setCell ?_ (by first | exact Nat.le_refl _ | (simp; done) | omega | (simp; omega)) _) | (refine below_drewN ?_ _) | (refine Below.drew ?_) | (refine Below.alloc ?_ (by first | exact Nat.le_refl _ | (simp; done) | omega | (simp; omega)) _) | (refine then_ ?_ (by with_reducible assumption)) | assumption | (refine then_ ?_ (by assumption))))⟩
          by_cases e : i = k
          · subst e
            rw [HX.out] at j1
            injection j1 with j1
            subst j1
            exact hq
          · exact HALL.out i x (by omega) j1
        case measure => simp [intOf]; omega
    · obtain rfl : k = p := by omega
      have ht : ls.all (okBd mir) = true := allX_yes (fun i x h1 => HALL.out i x (by have := (List.getElem?_eq_some_iff.1 h1).1; have := hs.1; omega) h1)
      go_wp2
      go_ret
      exact ⟨⟨-1, rfl, by rw [ht]; rfl⟩, hw⟩

theorem containsBd_any (g : Nat) (mir : Int) (H : Option Addr) (p pc : Nat) (ls : List Bd) (w : World) (hp : p ≤ 1048576) (h0 : w.cell? ⟨g, 0, none⟩ = some (.int .i64 mir)) (hs : Rd bdC 2 w w.heap.size H p ls) :
    Calls Tryz.prog 106 #[.slice H p pc, .func (.func 107) #[] #[.pointer (some ⟨g, 0, none⟩)]] w fun e w' => e = .returned (.bool (!(ls.all (okBd mir)))) ∧ Below w.heap.size w w' := by
  go_enter Tryz.func106, Tryz.ntmps106
  go_wp2_with (go_at_call 139; refine (indexBd_any g mir H p pc ls _ hp h0 hs).mono ?_; rintro e w1 ⟨⟨i, rfl, hi⟩, hb1⟩; have HI := Lib.hid hi; clear hi)
  go_ret
  exact ⟨by rw [← HI.out]; rfl, hb1⟩

/-- IsTumble of a tumble of at most eight beads -/
theorem isTumble_any (mir : Int) (gr : Pt) (loss : Nat) (A : Option Addr) (n c : Nat) (bs : List Bd) (w : World) (hn : n ≤ 8) (ha : Rd bdC 2 w w.heap.size A n bs) :
    Calls Tryz.prog 72 #[.agg #[.int .i64 mir, .complex .f32 gr.1 gr.2, .float .f32 loss, .slice A n c]] w fun e w' => e = .returned (.bool (tumB mir gr loss bs)) ∧ Below w.heap.size w w' := by
  have h8 : decide (bs.length ≤ 8) = true := by have := ha.1; simp; omega
  cases h1 : inB mir 0 3
  · have R := Lib.hid (show tumB mir gr loss bs = false by unfold tumB; rw [h1]; rfl)
    go_enter Tryz.func72, Tryz.ntmps72
    go_wp2_with (go_at_call 39; refine (isKind_any _ _).mono ?_; rintro e w' ⟨rfl, rfl⟩; simp only [h1])
    go_ret
    exact ⟨by rw [R.out]; rfl, by (repeat (first | with_reducible assumption | exact Below.refl _ _ | (refine Below.setCell ?_ (by first | exact Nat.le_refl _ | (simp; done) | omega | (simp; omega)) _) | (refine below_drewN ?_ _) | (refine Below.drew ?_) | (refine Below.alloc ?_ (by first | exact Nat.le_refl _ | (simp; done) | omega | (simp; omega)) _) | (refine then_ ?_ (by with_reducible assumption)) | assumption | (refine then_ ?_ (by assumption))))⟩
  · cases h2 : pointB gr.1 gr.2
    · have R := Lib.hid (show tumB mir gr loss bs = false by unfold tumB; rw [h1, h2]; rfl)
      go_enter Tryz.func72, Tryz.ntmps72
      go_wp2_with (first
        | (go_at_call 39; refine (isKind_any _ _).mono ?_; rintro e w' ⟨rfl, rfl⟩; simp only [h1])
        | (go_at_call 42; refine (isPoint_any _ _ _).mono ?_; rintro e w' ⟨rfl, rfl⟩; simp only [h2]))
      go_ret
      exact ⟨by rw [R.out]; rfl, by (repeat (first | with_reducible assumption | exact Below.refl _ _ | (refine Below.setCell ?_ (by first | exact Nat.le_refl _ | (simp; done) | omega | (simp; omega)) _) | (refine below_drewN ?_ _) | (refine Below.drew ?_) | (refine Below.alloc ?_ (by first | exact Nat.le_refl _ | (simp; done) | omega | (simp; omega)) _) | (refine then_ ?_ (by with_reducible assumption)) | assumption | (refine then_ ?_ (by assumption))))⟩
    · cases h3 : partB loss
      · have R := Lib.hid (show tumB mir gr loss bs = false by unfold tumB; rw [h1, h2, h3]; rfl)
        go_enter Tryz.func72, Tryz.ntmps72
        go_wp2_with (first
          | (go_at_call 39; refine (isKind_any _ _).mono ?_; rintro e w' ⟨rfl, rfl⟩; simp only [h1])
          | (go_at_call 42; refine (isPoint_any _ _ _).mono ?_; rintro e w' ⟨rfl, rfl⟩; simp only [h2])
          | (go_at_call 95; refine (isPart_any _ _).mono ?_; rintro e w' ⟨rfl, rfl⟩; simp only [h3]))
        go_ret
        exact ⟨by rw [R.out]; rfl, by (repeat (first | with_reducible assumption | exact Below.refl _ _ | (refine Below.setCell ?_ (by first | exact Nat.le_refl _ | (simp; done) | omega | (simp; omega)) _) | (refine below_drewN ?_ _) | (refine Below.drew ?_) | (refine Below.alloc ?_ (by first | exact Nat.le_refl _ | (simp; done) | omega | (simp; omega)) _) | (refine then_ ?_ (by with_reducible assumption)) | assumption | (refine then_ ?_ (by assumption))))⟩
      · have R := Lib.hid (show tumB mir gr loss bs = bs.all (okBd mir) by unfold tumB; rw [h1, h2, h3, h8]; rfl)
        have hni : ¬ (8 : Int) < (n : Int) := by omega
        go_enter Tryz.func72, Tryz.ntmps72
        go_wp2_with (first
          | (go_at_call 39; refine (isKind_any _ _).mono ?_; rintro e w' ⟨rfl, rfl⟩; simp only [h1])
          | (go_at_call 42; refine (isPoint_any _ _ _).mono ?_; rintro e w' ⟨rfl, rfl⟩; simp only [h2])
          | (go_at_call 95; refine (isPart_any _ _).mono ?_; rintro e w' ⟨rfl, rfl⟩; simp only [h3])
          | (go_at_call 106; refine (containsBd_any w.heap.size mir A n c bs _ (by omega) (by simp [go_sem]) (ha.step ?_)).mono ?_; (repeat (first | with_reducible assumption | exact Below.refl _ _ | (refine Below.setCell ?_ (by first | exact Nat.le_refl _ | (simp; done) | omega | (simp; omega)) _) | (refine below_drewN ?_ _) | (refine Below.drew ?_) | (refine Below.alloc ?_ (by first | exact Nat.le_refl _ | (simp; done) | omega | (simp; omega)) _) | (refine then_ ?_ (by with_reducible assumption)) | assumption | (refine then_ ?_ (by assumption)))); rintro e w2 ⟨rfl, hb2⟩))
        go_ret
        exact ⟨by rw [R.out]; simp, by (repeat (first | with_reducible assumption | exact Below.refl _ _ | (refine Below.setCell ?_ (by first | exact Nat.le_refl _ | (simp; done) | omega | (simp; omega)) _) | (refine below_drewN ?_ _) | (refine Below.drew ?_) | (refine Below.alloc ?_ (by first | exact Nat.le_refl _ | (simp; done) | omega | (simp; omega)) _) | (refine then_ ?_ (by with_reducible assumption)) | assumption | (refine then_ ?_ (by assumption))))⟩
theorem infoBd : (Tryz.prog.info? 54).map (fun i => (i.zero, i.size, i.bytes)) = some (some (.agg #[.complex .f32 0 0, .complex .f32 0 0]), 2, 16) := by kernel_rfl
end Go.Proofs.YthlphmojldbpkaaGreat

/- Clone of beads, cloneTumble: the program's. -/
namespace Go.Proofs.YthlphmojldbpkaaGreat
open Go.RowKit
attribute [local go_sem] run_store_float run_store_complex

/-- a read row's cells, one by one -/
theorem Rd.cells {α : Type} {enc : α → List Value} {sz : Nat} (he : ∀ x, (enc x).length = sz) (hsz : 0 < sz) {w : World} {B : Nat} {ad : Addr} {n : Nat} {xs : List α} (h : Rd enc sz w B (some ad) n xs) :
    ∀ j u, (flat enc xs)[j]? = some u → w.cell? (ad.add j) = some u := by
  intro j u hu
  have hj : j < xs.length * sz := by
    have := (List.getElem?_eq_some_iff.1 hu).1
    rwa [flat_length he] at this
  have hn : 0 < n := by
    have := h.1
    rcases Nat.eq_zero_or_pos n with h0 | h0
    · rw [h0] at this; rw [this, Nat.zero_mul] at hj; omega
    · exact h0
  obtain ⟨b, off, e, hb, hc⟩ := h.2 hn
  injection e with e
  subst e
  have hk : j / sz < xs.length := Nat.div_lt_of_lt_mul (by rw [Nat.mul_comm]; exact hj)
  have hx : xs[j / sz]? = some xs[j / sz] := List.getElem?_eq_getElem hk
  have hi : j % sz < (enc xs[j / sz]).length := by rw [he]; exact Nat.mod_lt _ hsz
  have hv : (enc xs[j / sz])[j % sz]? = some (enc xs[j / sz])[j % sz] := List.getElem?_eq_getElem hi
  have h1 := flat_get he xs _ _ hx _ _ hv
  have e2 : j / sz * sz + j % sz = j := by rw [Nat.mul_comm]; exact Nat.div_add_mod j sz
  rw [e2, hu] at h1
  injection h1 with h1
  have h2 := hc _ _ hx _ _ hv
  rw [← h1] at h2
  unfold Addr.add
  split
  · rename_i h0
    subst h0
    simpa using h2
  · show w.cell? ⟨b, off + j, none⟩ = some u
    rw [Nat.add_assoc, e2] at h2
    exact h2
theorem bdC_one (xs : List Bd) : ∀ u ∈ flat bdC xs, u.oneCell' = true := by
  intro u hu
  unfold flat at hu
  obtain ⟨b, _, hb⟩ := List.mem_flatMap.1 hu
  simp [bdC] at hb
  rcases hb with rfl | rfl <;> rfl

set_option maxRecDepth 100000 in
set_option maxHeartbeats 2000000 in
theorem cloneBd_any (A : Option Addr) (n c : Nat) (bs : List Bd) (w : World) (hn : n ≤ 8) (ha : Rd bdC 2 w w.heap.size A n bs) :
    Calls Tryz.prog 109 #[.slice A n c] w fun e w' => ∃ B d, e = .returned (.slice B n d) ∧ w'.ownsRow w.heap.size 54 2 (.slice B n d) n (flat bdC bs) ∧ Below w.heap.size w w' := by
  obtain ⟨i0, hi, hz0, hz1, hz2⟩ := info_parts infoBd
  cases A with
  | none =>
    have h0 : n = 0 := by
      rcases Nat.eq_zero_or_pos n with h | h
      · exact h
      · obtain ⟨b, off, e, _⟩ := ha.2 h; cases e
    subst h0
    have hb : bs = [] := List.eq_nil_of_length_eq_zero ha.1
    subst hb
    have hq := fun wx => Lib.run_eql_slice_nil (P := Tryz.prog) wx 29 54 none 0 c 0 0 Tryz.underlying29
    go_enter Tryz.func109, Tryz.ntmps109
    go_wp2
    go_ret
    exact ⟨none, 0, rfl, ⟨rfl, .inl ⟨rfl, rfl⟩⟩, Below.refl _ _⟩
  | some ad =>
    have hq := fun wx => Lib.run_eql_slice_nil (P := Tryz.prog) wx 29 54 (some ad) n c 0 0 Tryz.underlying29
    have hB := (show Below w.heap.size w (w.alloc (Obj.cells #[] 54)) by (repeat (first | with_reducible assumption | exact Below.refl _ _ | (refine Below.setCell ?_ (by first | exact Nat.le_refl _ | (simp; done) | omega | (simp; omega)) _) | (refine below_drewN ?_ _) | (refine Below.drew ?_) | (refine Below.alloc ?_ (by first | exact Nat.le_refl _ | (simp; done) | omega | (simp; omega)) _) | (refine then_ ?_ (by with_reducible assumption)) | assumption | (refine then_ ?_ (by assumption)))))
    have o0 := Lib.hid (World.ownsRow_lit (base := w.heap.size) (size := 2) (e := 54) w #[] 0 (Nat.le_refl _) (by simp [maxLen]) rfl)
    have r1 := Lib.hid (ha.step hB)
    have hlen : (flat bdC bs).length = n * 2 := by rw [flat_length bdC_len, ha.1]
    clear ha
    go_enter Tryz.func109, Tryz.ntmps109
    go_wp2_with (at_builtin; refine wpList_append_own_at _ rfl _ _ 29 rfl w.heap.size 54 i0 (.agg #[.complex .f32 0 0, .complex .f32 0 0]) 2 16 Tryz.underlying29 hi hz0 hz1 hz2 rfl (by decide) _ _ _ rfl o0.out ad n c (flat bdC bs) rfl hlen (Rd.cells bdC_len (by omega) r1.out) (bdC_one bs) (by unfold maxLen; omega) (by omega) (by simp) ?_; intro v3 w3 hown3 hg3 hne3 hat3; have GB3 := Lib.hid hg3; have OW3 := Lib.hid hown3; clear hown3 hg3 hne3 hat3)
    obtain ⟨B3, d3, rfl⟩ := owns_slice OW3.out
    have own := OW3.out
    rw [Nat.zero_add, List.nil_append] at own
    go_ret
    refine ⟨B3, d3, by show Ending.returned (Value.slice B3 (0 + n) d3) = _; rw [Nat.zero_add], own, hB.grown GB3.out (by simp) (fun k hk => ?_)⟩
    exact (o0.out.lt k hk).1

set_option maxHeartbeats 2000000 in
theorem cloneTumble_any (mir : Int) (gr : Pt) (loss : Nat) (A : Option Addr) (n c : Nat) (bs : List Bd) (w : World) (hn : n ≤ 8) (ha : Rd bdC 2 w w.heap.size A n bs) :
    Calls Tryz.prog 77 #[.agg #[.int .i64 mir, .complex .f32 gr.1 gr.2, .float .f32 loss, .slice A n c]] w fun e w' => ∃ B d, e = .returned (.agg #[.int .i64 mir, .complex .f32 gr.1 gr.2, .float .f32 loss, .slice B n d]) ∧ w'.ownsRow w.heap.size 54 2 (.slice B n d) n (flat bdC bs) ∧ Below w.heap.size w w' := by
  go_enter Tryz.func77, Tryz.ntmps77
  go_wp2_with fail
  obtain ⟨W, hWe⟩ : ∃ W, W = (w.alloc (Obj.cells #[.int .i64 mir, .complex .f32 gr.1 gr.2, .float .f32 loss, .slice A n c] 31)).alloc (Obj.cells #[.int .i64 0, .complex .f32 0 0, .float .f32 0, .slice none 0 0] 31) := ⟨_, rfl⟩
  have hW : Below w.heap.size w W := by rw [hWe]; (repeat (first | with_reducible assumption | exact Below.refl _ _ | (refine Below.setCell ?_ (by first | exact Nat.le_refl _ | (simp; done) | omega | (simp; omega)) _) | (refine below_drewN ?_ _) | (refine Below.drew ?_) | (refine Below.alloc ?_ (by first | exact Nat.le_refl _ | (simp; done) | omega | (simp; omega)) _) | (refine then_ ?_ (by with_reducible assumption)) | assumption | (refine then_ ?_ (by assumption))))
  have zW : W.heap.size = w.heap.size + 2 := by rw [hWe]; simp
  have c0 : W.cell? ⟨w.heap.size, 0, none⟩ = some (.int .i64 mir) := by rw [hWe]; simp [go_sem]
  have c1 : W.cell? ⟨w.heap.size, 1, none⟩ = some (.complex .f32 gr.1 gr.2) := by rw [hWe]; simp [go_sem]
  have c2 : W.cell? ⟨w.heap.size, 2, none⟩ = some (.float .f32 loss) := by rw [hWe]; simp [go_sem]
  have c3 : W.cell? ⟨w.heap.size, 3, none⟩ = some (.slice A n c) := by rw [hWe]; simp [go_sem]
  have cf : W.frozen? ⟨w.heap.size, 3, none⟩ = false := by rw [hWe]; simp [go_sem]
  have d0 : W.cell? ⟨w.heap.size + 1, 0, none⟩ = some (.int .i64 0) := by rw [hWe]; simp [go_sem]
  have d1 : W.cell? ⟨w.heap.size + 1, 1, none⟩ = some (.complex .f32 0 0) := by rw [hWe]; simp [go_sem]
  have d2 : W.cell? ⟨w.heap.size + 1, 2, none⟩ = some (.float .f32 0) := by rw [hWe]; simp [go_sem]
  have d3 : W.cell? ⟨w.heap.size + 1, 3, none⟩ = some (.slice none 0 0) := by rw [hWe]; simp [go_sem]
  have df : ∀ j, W.frozen? ⟨w.heap.size + 1, j, none⟩ = false := by intro j; rw [hWe]; simp [go_sem]
  rw [← hWe]
  clear hWe
  refine (cloneBd_any A n c bs _ hn (ha.step hW)).mono ?_
  rintro e w2 ⟨B, d, rfl, ho, hb⟩
  have cf := keepF c3 cf hb
  have c0 := keepC c0 hb
  have c1 := keepC c1 hb
  have c2 := keepC c2 hb
  have c3 := keepC c3 hb
  have f0 := keepF d0 (df 0) hb
  have f1 := keepF d1 (df 1) hb
  have f2 := keepF d2 (df 2) hb
  have f3 := keepF d3 (df 3) hb
  have d0 := keepC d0 hb
  have d1 := keepC d1 hb
  have d2 := keepC d2 hb
  have d3 := keepC d3 hb
  have hW2 := then_ hW hb
  have z2 := hb.size
  have O2 := Lib.hid ho
  have lw : w.heap.size < w2.heap.size := by omega
  have lw2 : w.heap.size + 1 < w2.heap.size := by omega
  clear df ho hb hW
  go_wp2
  have lW : w.heap.size < W.heap.size := by omega
  have lW2 : w.heap.size + 1 < W.heap.size := by omega
  have lle : w.heap.size ≤ W.heap.size := by omega
  have l1 : w.heap.size ≤ w.heap.size + 1 := by omega
  refine bodyPost_ret (v := .agg #[.int .i64 mir, .complex .f32 gr.1 gr.2, .float .f32 loss, .slice B n d]) (by simp [results, Tryz.results77, go_sem, d0, d1, d2, d3]) rfl ⟨B, d, rfl, ?_, ?_⟩
  · exact owns_mono (ownsRow_setCell_below (ownsRow_setCell_below (ownsRow_setCell_below (ownsRow_setCell_below (ownsRow_setCell_below O2.out lW _) lW2 _) lW2 _) lW2 _) lW2 _) lle
  · exact ((((hW2.setCell (Nat.le_refl _) _).setCell l1 _).setCell l1 _).setCell l1 _).setCell l1 _
end Go.Proofs.YthlphmojldbpkaaGreat

/- Plain facts about float32 words: their order is that of their rungs; the sign of a difference. No program. -/
namespace Go.Proofs.YthlphmojldbpkaaGreat
open Ieee

/-- the magnitude of a rung, in units of the least place -/
def magV (r : Nat) : Nat := if r < 8388608 then r else (8388608 + r % 8388608) * 2 ^ (r / 8388608 - 1)
def negB (x : Nat) : Bool := x / 2147483648 % 2 == 1
def rung (x : Nat) : Nat := x % 2147483648
def key (x : Nat) : Int := if negB x then -(rung x : Int) else (rung x : Int)
/-- the value, in units of the least place -/
def valV (x : Nat) : Int := if negB x then -(magV (rung x) : Int) else (magV (rung x) : Int)

theorem magV_lt {r r' : Nat} (h : r < r') : magV r < magV r' := by
  unfold magV
  by_cases h1 : r < 8388608
  · by_cases h2 : r' < 8388608
    · rw [if_pos h1, if_pos h2]; exact h
    · rw [if_pos h1, if_neg h2]
      have : 1 ≤ 2 ^ (r' / 8388608 - 1) := Nat.two_pow_pos _
      have : (8388608 + r' % 8388608) * 1 ≤ (8388608 + r' % 8388608) * 2 ^ (r' / 8388608 - 1) := Nat.mul_le_mul_left _ this
      omega
  · have h2 : ¬ r' < 8388608 := by omega
    rw [if_neg h1, if_neg h2]
    have hq : r / 8388608 ≤ r' / 8388608 := Nat.div_le_div_right (by omega)
    rcases Nat.lt_or_ge (r / 8388608) (r' / 8388608) with hlt | hge
    · have e : r' / 8388608 - 1 = (r / 8388608 - 1) + 1 + (r' / 8388608 - 1 - (r / 8388608 - 1) - 1) := by omega
      rw [e, Nat.pow_add, Nat.pow_add]
      generalize r' / 8388608 - 1 - (r / 8388608 - 1) - 1 = d
      have hp : 0 < 2 ^ (r / 8388608 - 1) := Nat.two_pow_pos _
      have hd : 1 ≤ 2 ^ d := Nat.two_pow_pos _
      generalize 2 ^ (r / 8388608 - 1) = P at hp ⊢
      generalize 2 ^ d = D at hd ⊢
      have a : (8388608 + r % 8388608) * P < 16777216 * P := Nat.mul_lt_mul_of_pos_right (by omega) hp
      have b : 16777216 * P ≤ (8388608 + r' % 8388608) * (P * 2 ^ 1 * D) := by
        have e1 : 16777216 * P = 8388608 * (P * 2 ^ 1 * 1) := by omega
        rw [e1]
        exact Nat.mul_le_mul (by omega) (Nat.mul_le_mul_left _ hd)
      exact Nat.lt_of_lt_of_le a b
    · have e : r' / 8388608 = r / 8388608 := by omega
      rw [e]
      exact Nat.mul_lt_mul_of_pos_right (by omega) (Nat.two_pow_pos _)
theorem magV_le {r r' : Nat} (h : r ≤ r') : magV r ≤ magV r' := by
  rcases Nat.lt_or_ge r r' with h1 | h1
  · exact Nat.le_of_lt (magV_lt h1)
  · have : r = r' := by omega
    rw [this]; exact Nat.le_refl _
theorem magV_zero : magV 0 = 0 := rfl
theorem magV_lt_iff {r r' : Nat} : magV r < magV r' ↔ r < r' :=
  ⟨fun h => by rcases Nat.lt_or_ge r r' with h1 | h1; exact h1; exact absurd h (Nat.not_lt.2 (magV_le h1)), magV_lt⟩
theorem val_lt_iff (x y : Nat) : valV x < valV y ↔ key x < key y := by
  unfold valV key
  have a := @magV_lt_iff (rung x) (rung y)
  have b := @magV_lt_iff (rung y) (rung x)
  have c := @magV_lt_iff 0 (rung y)
  have d := @magV_lt_iff 0 (rung x)
  rw [magV_zero] at c d
  cases negB x <;> cases negB y <;> simp only [Bool.false_eq_true, if_false, if_true] <;> omega
theorem val_eq_iff (x y : Nat) : valV x = valV y ↔ key x = key y := by
  have a := val_lt_iff x y
  have b := val_lt_iff y x
  omega

theorem read_val {x : Nat} (h : finB x = true) : ∃ m p, single.read x = .number (negB x) m p ∧ -149 ≤ p ∧ m <<< (p + 149).toNat = magV (rung x) := by
  simp only [finB, decide_eq_true_eq] at h
  unfold Format.read
  rw [c_sw, c_bin, c_inf]
  have hl : single.leastPlace = -149 := by decide
  unfold magV rung negB
  by_cases h1 : x % 2147483648 < 8388608
  · refine ⟨x % 2147483648, single.leastPlace, by simp [h1], by decide, ?_⟩
    rw [if_pos h1, hl]; simp
  · refine ⟨8388608 + x % 2147483648 % 8388608, single.leastPlace + (x % 2147483648 / 8388608 - 1 : Nat), by simp [h1, h], by omega, ?_⟩
    rw [if_neg h1, Nat.shiftLeft_eq, hl]
    congr 2
    omega

theorem compare_of {a b c d : Int} (h1 : a < b ↔ c < d) (h2 : a = b ↔ c = d) : compare a b = compare c d := by
  unfold compare instOrdInt
  simp only [compareOfLessAndEq, h1, h2]
theorem signed_scale (s : Bool) (m k c : Nat) : signed s m k * (2 ^ c : Nat) = signed s m (k + c) := by
  unfold signed
  have : (m <<< k) * 2 ^ c = m <<< (k + c) := by rw [Nat.shiftLeft_eq, Nat.shiftLeft_eq, Nat.pow_add, Nat.mul_assoc]
  cases s
  · simp only [Bool.false_eq_true, if_false]; rw [← Int.natCast_mul, this]
  · simp only [if_true]; rw [Int.neg_mul, ← Int.natCast_mul, this]
theorem signed_val {x m : Nat} {p : Int} (h : m <<< (p + 149).toNat = magV (rung x)) : signed (negB x) m (p + 149).toNat = valV x := by
  unfold signed valV; rw [h]

theorem ord_fin {x y : Nat} (hx : finB x = true) (hy : finB y = true) : ordB x y = some (compare (key x) (key y)) := by
  obtain ⟨m, i, ex, hi, vx⟩ := read_val hx
  obtain ⟨n, j, ey, hj, vy⟩ := read_val hy
  unfold ordB Format.order
  rw [ex, ey]
  simp only [Datum.order]
  congr 1
  have hp : (0 : Int) < ((2 ^ (min i j + 149).toNat : Nat) : Int) := by have := Nat.two_pow_pos (min i j + 149).toNat; omega
  have sx := signed_scale (negB x) m (i - min i j).toNat (min i j + 149).toNat
  have sy := signed_scale (negB y) n (j - min i j).toNat (min i j + 149).toNat
  rw [show (i - min i j).toNat + (min i j + 149).toNat = (i + 149).toNat by omega, signed_val vx] at sx
  rw [show (j - min i j).toNat + (min i j + 149).toNat = (j + 149).toNat by omega, signed_val vy] at sy
  generalize signed (negB x) m (i - min i j).toNat = a at *
  generalize signed (negB y) n (j - min i j).toNat = b at *
  generalize ((2 ^ (min i j + 149).toNat : Nat) : Int) = K at *
  refine compare_of ?_ ?_
  · rw [← val_lt_iff, ← sx, ← sy]
    exact ⟨fun h => Int.mul_lt_mul_of_pos_right h hp, fun h => Int.lt_of_mul_lt_mul_right h (by omega)⟩
  · rw [← val_eq_iff, ← sx, ← sy]
    exact ⟨fun h => by rw [h], fun h => Int.eq_of_mul_eq_mul_right (by omega) h⟩

theorem gtB_fin {x y : Nat} (hx : finB x = true) (hy : finB y = true) : gtB x y = decide (key y < key x) := by
  unfold gtB; rw [ord_fin hx hy]
  unfold compare instOrdInt
  simp only [compareOfLessAndEq]
  by_cases h : key x < key y
  · simp [h]; omega
  · by_cases h2 : key x = key y
    · simp [h2]
    · simp [h, h2]; omega
theorem eqB_fin {x y : Nat} (hx : finB x = true) (hy : finB y = true) : eqB x y = decide (key x = key y) := by
  unfold eqB; rw [ord_fin hx hy]
  unfold compare instOrdInt
  simp only [compareOfLessAndEq]
  by_cases h : key x < key y
  · simp [h]; omega
  · by_cases h2 : key x = key y <;> simp [h, h2]
theorem key_nn {x : Nat} (h : x < 2147483648) : key x = x := by
  have h0 : x / 2147483648 = 0 := Nat.div_eq_of_lt h
  have h1 : x % 2147483648 = x := Nat.mod_eq_of_lt h
  unfold key negB rung
  rw [h0, h1]
  simp

/-! ### differences -/
theorem word_false (r : Nat) : single.word false r = r := rfl
theorem nearest_nn (m : Nat) (p : Int) : single.nearest false m p ≤ 2139095040 := by
  unfold Format.nearest
  split
  · rw [word_false]; omega
  · simp only []
    rw [word_false]
    exact Nat.le_trans (Nat.min_le_right _ _) (by decide)
theorem cleanB_nn {r : Nat} (h : r ≤ 2139095040) : cleanB r < 2139095040 := by
  unfold cleanB finB
  split
  · rename_i h1
    simp only [Bool.and_eq_true, decide_eq_true_eq] at h1
    omega
  · omega
end Go.Proofs.YthlphmojldbpkaaGreat
