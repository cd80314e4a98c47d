
/- Beads and tumbles: IsTumble, Clone, cloneTumble; the program's. -/
import Derived.Test.YtkhlaifjfdecoaaFold
import Derived.Test.YtkhlaifjfdecoaaCol
import Derived.Maps.AppendAt
import Derived.Deep.RegionHeld3
namespace Go.Proofs.Ytkhlaifjfdecoaa
open Go.RowKit
attribute [local go_sem] run_store_float run_store_complex

abbrev Bd := Pt × Pt
def bdC (b : Bd) : List Value := [.complex .f32 b.1.1 b.1.2, .complex .f32 b.2.1 b.2.2]
theorem bdC_len (b : Bd) : (bdC b).length = 2 := rfl
def bdV (b : Bd) : Value := .agg #[.complex .f32 b.1.1 b.1.2, .complex .f32 b.2.1 b.2.2]
def okBd (mir : Int) (b : Bd) : Bool := wedgeB mir b.1 && pointB b.2.1 b.2.2
def tumB (mir : Int) (gr : Pt) (loss : Nat) (bs : List Bd) : Bool := inB mir 0 3 && (pointB gr.1 gr.2 && (partB loss && (decide (bs.length ≤ 8) && bs.all (okBd mir))))
theorem Rd.bd {w : World} {B : Nat} {A : Option Addr} {n k : Nat} {xs : List Bd} (h : Rd bdC 2 w B A n xs) (hk : k < n) :
    ∃ b off a c, A = some ⟨b, off, none⟩ ∧ b < B ∧ xs[k]? = some (a, c) ∧ w.cell? ⟨b, off + k * 2, none⟩ = some (.complex .f32 a.1 a.2) ∧ w.cell? ⟨b, off + k * 2 + 1, none⟩ = some (.complex .f32 c.1 c.2) := by
  obtain ⟨b, off, ⟨a, c⟩, e, hb, hx, hc⟩ := h.at_ hk
  exact ⟨b, off, a, c, e, hb, hx, hc 0 _ rfl, hc 1 _ rfl⟩

set_option maxHeartbeats 2000000 in
theorem tumF_any (a v : Pt) (g : Nat) (mir : Int) (w : World) (h0 : w.cell? ⟨g, 0, none⟩ = some (.int .i64 mir)) :
    Calls Try.prog 55 #[.agg #[.complex .f32 a.1 a.2, .complex .f32 v.1 v.2], .pointer (some ⟨g, 0, none⟩)] w fun e w' => e = .returned (.bool (!(okBd mir (a, v)))) ∧ Below w.heap.size w w' := by
  have lb := World.block_lt_of_cell? _ _ h0
  dsimp only at lb
  have n1 : ¬ w.heap.size = g := by omega
  have n2 : ¬ g = w.heap.size := by omega
  cases h1 : wedgeB mir a
  · have R := Lib.hid (show okBd mir (a, v) = false by unfold okBd; rw [h1]; rfl)
    go_enter Try.func55, Try.ntmps55
    go_wp2_with (go_at_call 56; refine (inWedge_any _ _ _).mono ?_; rintro e w' ⟨rfl, rfl⟩; simp only [h1])
    go_ret
    exact ⟨by rw [R.out]; rfl, by (repeat (first | with_reducible assumption | exact Below.refl _ _ | (refine Below.setCell ?_ (by first | exact Nat.le_refl _ | (simp; done) | omega | (simp; omega)) _) | (refine below_drewN ?_ _) | (refine Below.drew ?_) | (refine Below.alloc ?_ (by first | exact Nat.le_refl _ | (simp; done) | omega | (simp; omega)) _) | (refine then_ ?_ (by with_reducible assumption)) | assumption | (refine then_ ?_ (by assumption))))⟩
  · have R := Lib.hid (show okBd mir (a, v) = pointB v.1 v.2 by unfold okBd; rw [h1]; rfl)
    go_enter Try.func55, Try.ntmps55
    go_wp2_with (first
      | (go_at_call 56; refine (inWedge_any _ _ _).mono ?_; rintro e w' ⟨rfl, rfl⟩; simp only [h1])
      | (go_at_call 53; refine (isPoint_any _ _ _).mono ?_; rintro e w' ⟨rfl, rfl⟩))
    go_ret
    exact ⟨by rw [R.out]; rfl, by (repeat (first | with_reducible assumption | exact Below.refl _ _ | (refine Below.setCell ?_ (by first | exact Nat.le_refl _ | (simp; done) | omega | (simp; omega)) _) | (refine below_drewN ?_ _) | (refine Below.drew ?_) | (refine Below.alloc ?_ (by first | exact Nat.le_refl _ | (simp; done) | omega | (simp; omega)) _) | (refine then_ ?_ (by with_reducible assumption)) | assumption | (refine then_ ?_ (by assumption))))⟩

theorem allX_no {α : Type} {ls : List α} {p : α → Bool} {i : Nat} {x : α} (hx : ls[i]? = some x) (h : p x = false) : ls.all p = false := by
  rw [List.all_eq_false]
  exact ⟨x, List.mem_of_getElem? hx, by simp [h]⟩
theorem allX_yes {α : Type} {ls : List α} {p : α → Bool} (h : ∀ (i : Nat) x, ls[i]? = some x → p x = true) : ls.all p = true := by
  rw [List.all_eq_true]
  intro x hx
  obtain ⟨i, hi⟩ := List.getElem?_of_mem hx
  exact h i x hi

set_option maxRecDepth 100000 in
set_option maxHeartbeats 4000000 in
theorem indexBd_any (g : Nat) (mir : Int) (H : Option Addr) (p pc : Nat) (ls : List Bd) (w : World) (hp : p ≤ 1048576) (h0 : w.cell? ⟨g, 0, none⟩ = some (.int .i64 mir)) (hs : Rd bdC 2 w w.heap.size H p ls) :
    Calls Try.prog 62 #[.slice H p pc, .func (.func 55) #[] #[.pointer (some ⟨g, 0, none⟩)]] w fun e w' => (∃ i : Int, e = .returned (.int .i64 i) ∧ decide (0 ≤ i) = !(ls.all (okBd mir))) ∧ Below w.heap.size w w' := by
  go_enter Try.func62, Try.ntmps62
  go_wp2
  go_loopw [5, 8] (fun _ i wr => ∃ k : Nat, k ≤ p ∧ i = .int .i64 k ∧ (∀ (i : Nat) x, i < k → ls[i]? = some x → okBd mir x = true) ∧ Below w.heap.size w wr) (fun _ i _ => p - (intOf i).toNat)
  case atStart => exact ⟨0, Nat.zero_le _, rfl, fun i x h => by omega, Below.refl _ _⟩
  case round =>
    obtain ⟨k, hk, rfl, hall, hw⟩ := hrel
    have HALL := Lib.hid hall
    clear hall
    by_cases hlt : k < p
    · obtain ⟨bb, off, a, v, rfl, hbl, hx, c0, c1⟩ := (hs.below hw).bd hlt
      have hki : (k : Int) < (p : Int) := by omega
      have hk0 : (0 : Int) ≤ (k : Int) := by omega
      have HX := Lib.hid hx
      clear hx
      have d0 := keepC h0 hw
      cases hq : okBd mir (a, v)
      · go_wp2_with (go_at_call 55; refine (tumF_any a v g mir _ (by assumption)).mono ?_; rintro e w1 ⟨rfl, hb1⟩; simp only [hq])
        go_ret
        exact ⟨⟨_, rfl, by rw [allX_no HX.out hq]; simp⟩, by (repeat (first | with_reducible assumption | exact Below.refl _ _ | (refine Below.setCell ?_ (by first | exact Nat.le_refl _ | (simp; done) | omega | (simp; omega)) _) | (refine below_drewN ?_ _) | (refine Below.drew ?_) | (refine Below.alloc ?_ (by first | exact Nat.le_refl _ | (simp; done) | omega | (simp; omega)) _) | (refine then_ ?_ (by with_reducible assumption)) | assumption | (refine then_ ?_ (by assumption))))⟩
      · go_wp2_with (go_at_call 55; refine (tumF_any a v g mir _ (by assumption)).mono ?_; rintro e w1 ⟨rfl, hb1⟩; simp only [hq])
        go_roundw
        case rel =>
          refine ⟨k + 1, by omega, by go_num, fun i x hi j1 => ?_, by (repeat (first | with_reducible assumption | exact Below.refl _ _ | (refine Below.setCell ?_ (by first | exact Nat.le_refl _ | (simp; done) | omega | (simp; omega)) _) | (refine below_drewN ?_ _) | (refine Below.drew ?_) | (refine Below.alloc ?_ (by first | exact Nat.le_refl _ | (simp; done) | omega | (simp; omega)) _) | (refine then_ ?_ (by with_reducible assumption)) | assumption | (refine then_ ?_ (by assumption))))⟩
          by_cases e : i = k
          · subst e
            rw [HX.out] at j1
            injection j1 with j1
            subst j1
            exact hq
          · exact HALL.out i x (by omega) j1
        case measure => simp [intOf]; omega
    · obtain rfl : k = p := by omega
      have ht : ls.all (okBd mir) = true := allX_yes (fun i x h1 => HALL.out i x (by have := (List.getElem?_eq_some_iff.1 h1).1; have := hs.1; omega) h1)
      go_wp2
      go_ret
      exact ⟨⟨-1, rfl, by rw [ht]; rfl⟩, hw⟩

theorem containsBd_any (g : Nat) (mir : Int) (H : Option Addr) (p pc : Nat) (ls : List Bd) (w : World) (hp : p ≤ 1048576) (h0 : w.cell? ⟨g, 0, none⟩ = some (.int .i64 mir)) (hs : Rd bdC 2 w w.heap.size H p ls) :
    Calls Try.prog 54 #[.slice H p pc, .func (.func 55) #[] #[.pointer (some ⟨g, 0, none⟩)]] w fun e w' => e = .returned (.bool (!(ls.all (okBd mir)))) ∧ Below w.heap.size w w' := by
  go_enter Try.func54, Try.ntmps54
  go_wp2_with (go_at_call 62; refine (indexBd_any g mir H p pc ls _ hp h0 hs).mono ?_; rintro e w1 ⟨⟨i, rfl, hi⟩, hb1⟩; have HI := Lib.hid hi; clear hi)
  go_ret
  exact ⟨by rw [← HI.out]; rfl, hb1⟩

/-- IsTumble of a tumble of at most eight beads -/
theorem isTumble_any (mir : Int) (gr : Pt) (loss : Nat) (A : Option Addr) (n c : Nat) (bs : List Bd) (w : World) (hn : n ≤ 8) (ha : Rd bdC 2 w w.heap.size A n bs) :
    Calls Try.prog 33 #[.agg #[.int .i64 mir, .complex .f32 gr.1 gr.2, .float .f32 loss, .slice A n c]] w fun e w' => e = .returned (.bool (tumB mir gr loss bs)) ∧ Below w.heap.size w w' := by
  have h8 : decide (bs.length ≤ 8) = true := by have := ha.1; simp; omega
  cases h1 : inB mir 0 3
  · have R := Lib.hid (show tumB mir gr loss bs = false by unfold tumB; rw [h1]; rfl)
    go_enter Try.func33, Try.ntmps33
    go_wp2_with (go_at_call 52; refine (isKind_any _ _).mono ?_; rintro e w' ⟨rfl, rfl⟩; simp only [h1])
    go_ret
    exact ⟨by rw [R.out]; rfl, by (repeat (first | with_reducible assumption | exact Below.refl _ _ | (refine Below.setCell ?_ (by first | exact Nat.le_refl _ | (simp; done) | omega | (simp; omega)) _) | (refine below_drewN ?_ _) | (refine Below.drew ?_) | (refine Below.alloc ?_ (by first | exact Nat.le_refl _ | (simp; done) | omega | (simp; omega)) _) | (refine then_ ?_ (by with_reducible assumption)) | assumption | (refine then_ ?_ (by assumption))))⟩
  · cases h2 : pointB gr.1 gr.2
    · have R := Lib.hid (show tumB mir gr loss bs = false by unfold tumB; rw [h1, h2]; rfl)
      go_enter Try.func33, Try.ntmps33
      go_wp2_with (first
        | (go_at_call 52; refine (isKind_any _ _).mono ?_; rintro e w' ⟨rfl, rfl⟩; simp only [h1])
        | (go_at_call 53; refine (isPoint_any _ _ _).mono ?_; rintro e w' ⟨rfl, rfl⟩; simp only [h2]))
      go_ret
      exact ⟨by rw [R.out]; rfl, by (repeat (first | with_reducible assumption | exact Below.refl _ _ | (refine Below.setCell ?_ (by first | exact Nat.le_refl _ | (simp; done) | omega | (simp; omega)) _) | (refine below_drewN ?_ _) | (refine Below.drew ?_) | (refine Below.alloc ?_ (by first | exact Nat.le_refl _ | (simp; done) | omega | (simp; omega)) _) | (refine then_ ?_ (by with_reducible assumption)) | assumption | (refine then_ ?_ (by assumption))))⟩
    · cases h3 : partB loss
      · have R := Lib.hid (show tumB mir gr loss bs = false by unfold tumB; rw [h1, h2, h3]; rfl)
        go_enter Try.func33, Try.ntmps33
        go_wp2_with (first
          | (go_at_call 52; refine (isKind_any _ _).mono ?_; rintro e w' ⟨rfl, rfl⟩; simp only [h1])
          | (go_at_call 53; refine (isPoint_any _ _ _).mono ?_; rintro e w' ⟨rfl, rfl⟩; simp only [h2])
          | (go_at_call 48; refine (isPart_any _ _).mono ?_; rintro e w' ⟨rfl, rfl⟩; simp only [h3]))
        go_ret
        exact ⟨by rw [R.out]; rfl, by (repeat (first | with_reducible assumption | exact Below.refl _ _ | (refine Below.setCell ?_ (by first | exact Nat.le_refl _ | (simp; done) | omega | (simp; omega)) _) | (refine below_drewN ?_ _) | (refine Below.drew ?_) | (refine Below.alloc ?_ (by first | exact Nat.le_refl _ | (simp; done) | omega | (simp; omega)) _) | (refine then_ ?_ (by with_reducible assumption)) | assumption | (refine then_ ?_ (by assumption))))⟩
      · have R := Lib.hid (show tumB mir gr loss bs = bs.all (okBd mir) by unfold tumB; rw [h1, h2, h3, h8]; rfl)
        have hni : ¬ (8 : Int) < (n : Int) := by omega
        go_enter Try.func33, Try.ntmps33
        go_wp2_with (first
          | (go_at_call 52; refine (isKind_any _ _).mono ?_; rintro e w' ⟨rfl, rfl⟩; simp only [h1])
          | (go_at_call 53; refine (isPoint_any _ _ _).mono ?_; rintro e w' ⟨rfl, rfl⟩; simp only [h2])
          | (go_at_call 48; refine (isPart_any _ _).mono ?_; rintro e w' ⟨rfl, rfl⟩; simp only [h3])
          | (go_at_call 54; refine (containsBd_any w.heap.size mir A n c bs _ (by omega) (by simp [go_sem]) (ha.step ?_)).mono ?_; (repeat (first | with_reducible assumption | exact Below.refl _ _ | (refine Below.setCell ?_ (by first | exact Nat.le_refl _ | (simp; done) | omega | (simp; omega)) _) | (refine below_drewN ?_ _) | (refine Below.drew ?_) | (refine Below.alloc ?_ (by first | exact Nat.le_refl _ | (simp; done) | omega | (simp; omega)) _) | (refine then_ ?_ (by with_reducible assumption)) | assumption | (refine then_ ?_ (by assumption)))); rintro e w2 ⟨rfl, hb2⟩))
        go_ret
        exact ⟨by rw [R.out]; simp, by (repeat (first | with_reducible assumption | exact Below.refl _ _ | (refine Below.setCell ?_ (by first | exact Nat.le_refl _ | (simp; done) | omega | (simp; omega)) _) | (refine below_drewN ?_ _) | (refine Below.drew ?_) | (refine Below.alloc ?_ (by first | exact Nat.le_refl _ | (simp; done) | omega | (simp; omega)) _) | (refine then_ ?_ (by with_reducible assumption)) | assumption | (refine then_ ?_ (by assumption))))⟩
theorem infoBd : (Try.prog.info? 70).map (fun i => (i.zero, i.size, i.bytes)) = some (some (.agg #[.complex .f32 0 0, .complex .f32 0 0]), 2, 16) := by kernel_rfl
end Go.Proofs.Ytkhlaifjfdecoaa
