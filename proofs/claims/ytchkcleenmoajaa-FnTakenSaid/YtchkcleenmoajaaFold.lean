
/- InWedge, FoldPoint, plus: the program's. -/
import Derived.Test.YtchkcleenmoajaaSyms
import Derived.Test.YtchkcleenmoajaaM23
import Derived.Test.YtchkcleenmoajaaKept
import Derived.Deep.RegionLaw
namespace Go.Proofs.Ytchkcleenmoajaa
open Go.RowKit
attribute [local go_sem] run_store_float run_store_complex

abbrev Pt := Nat × Nat
def plusP (a b : Pt) : Pt := (addB a.1 b.1, addB a.2 b.2)
def sideB (kind : Int) (p : Pt) : Bool := if kind = 0 then true else if kind = 1 then geB p.2 0 else if kind = 2 then geB p.1 0 && geB p.2 0 else if kind = 3 then leB 0 p.2 && leB p.2 p.1 else false
def wedgeB (kind : Int) (p : Pt) : Bool := pointB p.1 p.2 && sideB kind p

set_option maxHeartbeats 2000000 in
theorem inWedge_any (kind : Int) (p : Pt) (w : World) :
    Calls Try.prog 55 #[.int .i64 kind, .complex .f32 p.1 p.2] w fun e w' => e = .returned (.bool (wedgeB kind p)) ∧ w = w' := by
  cases h0 : pointB p.1 p.2
  · have R := Lib.hid (show wedgeB kind p = false by unfold wedgeB; rw [h0]; rfl)
    go_enter Try.func55, Try.ntmps55
    go_wp2_with (go_at_call 49; refine (isPoint_any _ _ _).mono ?_; rintro e w' ⟨rfl, rfl⟩; simp only [h0])
    go_ret
    exact ⟨by rw [R.out]; rfl, rfl⟩
  · have R := Lib.hid (show wedgeB kind p = sideB kind p by unfold wedgeB; rw [h0]; rfl)
    by_cases k0 : kind = 0
    · subst k0
      go_enter Try.func55, Try.ntmps55
      go_wp2_with (go_at_call 49; refine (isPoint_any _ _ _).mono ?_; rintro e w' ⟨rfl, rfl⟩; simp only [h0])
      go_ret
      exact ⟨by rw [R.out]; rfl, rfl⟩
    · by_cases k1 : kind = 1
      · subst k1
        go_enter Try.func55, Try.ntmps55
        go_wp2_with (go_at_call 49; refine (isPoint_any _ _ _).mono ?_; rintro e w' ⟨rfl, rfl⟩; simp only [h0])
        go_ret
        exact ⟨by rw [R.out]; rfl, rfl⟩
      · by_cases k2 : kind = 2
        · subst k2
          cases h1 : geB p.1 0
          all_goals
            have S := Lib.hid (show sideB 2 p = (geB p.1 0 && geB p.2 0) from rfl)
            have e1 : (FloatKind.f32.format.order p.1 0 == some .gt || FloatKind.f32.format.order p.1 0 == some .eq) = geB p.1 0 := rfl
            rw [h1] at e1
            have H1 := Lib.hid h1
            clear h1
            go_enter Try.func55, Try.ntmps55
            go_wp2_with (go_at_call 49; refine (isPoint_any _ _ _).mono ?_; rintro e w' ⟨rfl, rfl⟩; simp only [h0])
            go_ret
            exact ⟨by rw [R.out, S.out, H1.out]; rfl, rfl⟩
        · by_cases k3 : kind = 3
          · subst k3
            cases h1 : leB 0 p.2
            all_goals
              have S := Lib.hid (show sideB 3 p = (leB 0 p.2 && leB p.2 p.1) from rfl)
              have e1 : (FloatKind.f32.format.order 0 p.2 == some .lt || FloatKind.f32.format.order 0 p.2 == some .eq) = leB 0 p.2 := rfl
              rw [h1] at e1
              have H1 := Lib.hid h1
              clear h1
              go_enter Try.func55, Try.ntmps55
              go_wp2_with (go_at_call 49; refine (isPoint_any _ _ _).mono ?_; rintro e w' ⟨rfl, rfl⟩; simp only [h0])
              go_ret
              exact ⟨by rw [R.out, S.out, H1.out]; rfl, rfl⟩
          · have S := Lib.hid (show sideB kind p = false by simp [sideB, k0, k1, k2, k3])
            go_enter Try.func55, Try.ntmps55
            go_wp2_with (go_at_call 49; refine (isPoint_any _ _ _).mono ?_; rintro e w' ⟨rfl, rfl⟩; simp only [h0])
            go_ret
            exact ⟨by rw [R.out, S.out]; rfl, rfl⟩

def foldG (kind : Int) (z : Pt) (l : List (Int × Bool)) : Pt × (Int × Bool) × Bool := match l.find? (fun g => wedgeB kind (actP g.1 g.2 z.1 z.2)) with
  | some g => (actP g.1 g.2 z.1 z.2, g, true)
  | none => ((0, 0), (0, false), false)
def foldP (kind : Int) (z : Pt) : Pt × (Int × Bool) × Bool := if pointB z.1 z.2 then foldG kind z (symsL kind) else ((0, 0), (0, false), false)
theorem foldG_hit {kind : Int} {z : Pt} {l : List (Int × Bool)} {k : Nat} {g : Int × Bool} (hx : l[k]? = some g) (hall : ∀ (i : Nat) y, i < k → l[i]? = some y → wedgeB kind (actP y.1 y.2 z.1 z.2) = false) (h : wedgeB kind (actP g.1 g.2 z.1 z.2) = true) : foldG kind z l = (actP g.1 g.2 z.1 z.2, g, true) := by
  unfold foldG
  have : l.find? (fun g => wedgeB kind (actP g.1 g.2 z.1 z.2)) = some g := by
    have hk := (List.getElem?_eq_some_iff.1 hx)
    obtain ⟨hk1, hk2⟩ := hk
    rw [List.find?_eq_some_iff_getElem]
    exact ⟨h, k, hk1, hk2, fun j hj => by simpa using hall j _ hj (List.getElem?_eq_getElem (by omega))⟩
  rw [this]
theorem foldG_miss {kind : Int} {z : Pt} {l : List (Int × Bool)} (hall : ∀ (i : Nat) y, l[i]? = some y → wedgeB kind (actP y.1 y.2 z.1 z.2) = false) : foldG kind z l = ((0, 0), (0, false), false) := by
  unfold foldG
  have : l.find? (fun g => wedgeB kind (actP g.1 g.2 z.1 z.2)) = none := by
    rw [List.find?_eq_none]
    intro x hx
    obtain ⟨i, hi⟩ := List.getElem?_of_mem hx
    simp [hall i x hi]
  rw [this]
def foldV (r : Pt × (Int × Bool) × Bool) : Value := .tuple #[.complex .f32 r.1.1 r.1.2, .agg #[.int .i64 r.2.1.1, .bool r.2.1.2], .bool r.2.2]

set_option maxRecDepth 100000 in
set_option maxHeartbeats 4000000 in
theorem foldPoint_any (kind : Int) (z : Pt) (w : World) :
    Calls Try.prog 33 #[.int .i64 kind, .complex .f32 z.1 z.2] w fun e w' => e = .returned (foldV (foldP kind z)) ∧ Below w.heap.size w w' := by
  cases h0 : pointB z.1 z.2
  · have R := Lib.hid (show foldP kind z = ((0, 0), (0, false), false) by unfold foldP; rw [h0]; rfl)
    go_enter Try.func33, Try.ntmps33
    go_wp2_with (go_at_call 49; refine (isPoint_any _ _ _).mono ?_; rintro e w' ⟨rfl, rfl⟩; simp only [h0])
    exact bodyPost_ret (v := foldV ((0, 0), (0, false), false)) (by simp [results, Try.results33, go_sem, foldV]) rfl ⟨by rw [R.out], by (repeat (first | with_reducible assumption | exact Below.refl _ _ | (refine Below.setCell ?_ (by first | exact Nat.le_refl _ | (simp; done) | omega | (simp; omega)) _) | (refine below_drewN ?_ _) | (refine Below.drew ?_) | (refine Below.alloc ?_ (by first | exact Nat.le_refl _ | (simp; done) | omega | (simp; omega)) _) | (refine then_ ?_ (by with_reducible assumption)) | assumption | (refine then_ ?_ (by assumption))))⟩
  · obtain ⟨l, hl⟩ : ∃ l, l = symsL kind := ⟨_, rfl⟩
    have h8 : l.length ≤ 8 := by rw [hl]; exact symsUp_len _ _
    have ks := fun w => symsOf_any kind w
    have R := Lib.hid (show foldP kind z = foldG kind z l by unfold foldP; rw [h0, hl]; rfl)
    rw [← hl] at ks
    have KS := Lib.hid ks
    clear ks hl
    go_enter Try.func33, Try.ntmps33
    go_wp2_with (go_at_call 49; refine (isPoint_any _ _ _).mono ?_; rintro e w' ⟨rfl, rfl⟩; simp only [h0])
    obtain ⟨W, hWe⟩ : ∃ W, W = w.alloc (Obj.cells #[.int .i64 0, .bool false] 31) := ⟨_, rfl⟩
    have hW : Below w.heap.size w W := by rw [hWe]; (repeat (first | with_reducible assumption | exact Below.refl _ _ | (refine Below.setCell ?_ (by first | exact Nat.le_refl _ | (simp; done) | omega | (simp; omega)) _) | (refine below_drewN ?_ _) | (refine Below.drew ?_) | (refine Below.alloc ?_ (by first | exact Nat.le_refl _ | (simp; done) | omega | (simp; omega)) _) | (refine then_ ?_ (by with_reducible assumption)) | assumption | (refine then_ ?_ (by assumption))))
    have zW : w.heap.size < W.heap.size := by rw [hWe]; simp
    have q0 : W.cell? ⟨w.heap.size, 0, none⟩ = some (.int .i64 0) := by rw [hWe]; simp [go_sem]
    have q1 : W.cell? ⟨w.heap.size, 1, none⟩ = some (.bool false) := by rw [hWe]; simp [go_sem]
    have f0 : W.frozen? ⟨w.heap.size, 0, none⟩ = false := by rw [hWe]; simp [go_sem]
    have f1 : W.frozen? ⟨w.heap.size, 1, none⟩ = false := by rw [hWe]; simp [go_sem]
    rw [← hWe]
    clear hWe
    refine (KS.out _).mono ?_
    rintro e w1 ⟨G, cG, rfl, ho1, hb1⟩
    have r1 := Rd.of_own symC_len rfl ho1
    have f0 := keepF q0 f0 hb1
    have f1 := keepF q1 f1 hb1
    have q0 := keepC q0 hb1
    have q1 := keepC q1 hb1
    have hW1 := then_ hW hb1
    have lw : w.heap.size < w1.heap.size := World.block_lt_of_cell? _ _ q0
    clear ho1 hb1 hW
    go_wp2_with fail
    go_loopw [17] (fun i wr => ∃ k : Nat, k ≤ l.length ∧ i = .int .i64 k ∧ (∀ (i : Nat) y, i < k → l[i]? = some y → wedgeB kind (actP y.1 y.2 z.1 z.2) = false) ∧ Below w1.heap.size w1 wr) (fun i _ => l.length - (intOf i).toNat)
    case atStart => exact ⟨0, Nat.zero_le _, rfl, fun i y h => by omega, Below.refl _ _⟩
    case round =>
      obtain ⟨k, hk, rfl, hall, hw⟩ := hrel
      have HALL := Lib.hid hall
      have f0 := keepF q0 f0 hw
      have f1 := keepF q1 f1 hw
      have q0 := keepC q0 hw
      have q1 := keepC q1 hw
      have hWr := then_ hW1 hw
      clear hall
      by_cases hlt : k < l.length
      · obtain ⟨b, off, t, f, rfl, hbl, hx, c0, c1⟩ := (r1.below hw).sym hlt
        have HX := Lib.hid hx
        have hki : (k : Int) < (l.length : Int) := by omega
        have hk0 : (0 : Int) ≤ (k : Int) := by omega
        obtain ⟨q, hq⟩ : ∃ q, q = actP t f z.1 z.2 := ⟨_, rfl⟩
        have HQ := Lib.hid hq
        have ka := fun w => actSym_any t f z.1 z.2 w
        rw [← hq] at ka
        have KA := Lib.hid ka
        clear hx ka hq
        go_wp2_with fail
        obtain ⟨V, hVe⟩ : ∃ V, V = wr.alloc (Obj.cells #[.int .i64 t, .bool f] 31) := ⟨_, rfl⟩
        have hV : Below wr.heap.size wr V := by rw [hVe]; (repeat (first | with_reducible assumption | exact Below.refl _ _ | (refine Below.setCell ?_ (by first | exact Nat.le_refl _ | (simp; done) | omega | (simp; omega)) _) | (refine below_drewN ?_ _) | (refine Below.drew ?_) | (refine Below.alloc ?_ (by first | exact Nat.le_refl _ | (simp; done) | omega | (simp; omega)) _) | (refine then_ ?_ (by with_reducible assumption)) | assumption | (refine then_ ?_ (by assumption))))
        have v0 : V.cell? ⟨wr.heap.size, 0, none⟩ = some (.int .i64 t) := by rw [hVe]; simp [go_sem]
        have v1 : V.cell? ⟨wr.heap.size, 1, none⟩ = some (.bool f) := by rw [hVe]; simp [go_sem]
        have hne : ¬ wr.heap.size = w.heap.size := by have := World.block_lt_of_cell? _ _ q0; dsimp only at this; omega
        have hne' : ¬ w.heap.size = wr.heap.size := fun e => hne e.symm
        rw [← hVe]
        clear hVe
        refine (KA.out _).mono ?_
        rintro e w2 ⟨rfl, hb2⟩
        have f0 := keepF (keepC q0 hV) (keepF q0 f0 hV) hb2
        have f1 := keepF (keepC q1 hV) (keepF q1 f1 hV) hb2
        have q0 := keepC (keepC q0 hV) hb2
        have q1 := keepC (keepC q1 hV) hb2
        have v0 := keepC v0 hb2
        have v1 := keepC v1 hb2
        have hB2 := then_ (then_ hw hV) hb2
        have hW2 := then_ hW1 hB2
        simp only [cxV]
        clear hV hb2 c0 c1
        go_wp2_with fail
        refine (inWedge_any kind q _).mono ?_
        cases hc : wedgeB kind q
        · rintro e w' ⟨rfl, rfl⟩
          have HC := Lib.hid hc
          clear hc
          go_wp2
          go_roundw
          case rel =>
            refine ⟨k + 1, by omega, by go_num, fun i y hi j1 => ?_, hB2⟩
            by_cases e : i = k
            · subst e
              rw [HX.out] at j1
              injection j1 with j1
              subst j1
              show wedgeB kind (actP t f z.1 z.2) = false
              rw [← HQ.out]
              exact HC.out
            · exact HALL.out i y (by omega) j1
          case measure => simp [intOf]; omega
        · rintro e w' ⟨rfl, rfl⟩
          have HF := Lib.hid (foldG_hit (z := z) HX.out HALL.out (show wedgeB kind (actP t f z.1 z.2) = true by rw [← HQ.out]; exact hc))
          clear hc
          go_wp2_with fail
          go_region_law (fail)
          all_goals
            go_wp2
            exact bodyPost_ret (v := foldV (q, (t, f), true)) (by simp [results, Try.results33, go_sem, foldV, *]) rfl ⟨by rw [R.out, HF.out, HQ.out], by (repeat (first | with_reducible assumption | exact Below.refl _ _ | (refine Below.setCell ?_ (by first | exact Nat.le_refl _ | (simp; done) | omega | (simp; omega)) _) | (refine below_drewN ?_ _) | (refine Below.drew ?_) | (refine Below.alloc ?_ (by first | exact Nat.le_refl _ | (simp; done) | omega | (simp; omega)) _) | (refine then_ ?_ (by with_reducible assumption)) | assumption | (refine then_ ?_ (by assumption))))⟩
      · obtain rfl : k = l.length := by omega
        have HF := Lib.hid (foldG_miss (z := z) (fun i y h1 => HALL.out i y (List.getElem?_eq_some_iff.1 h1).1 h1))
        go_wp2
        exact bodyPost_ret (v := foldV ((0, 0), (0, false), false)) (by simp [results, Try.results33, go_sem, foldV, *]) rfl ⟨by rw [R.out, HF.out], by (repeat (first | with_reducible assumption | exact Below.refl _ _ | (refine Below.setCell ?_ (by first | exact Nat.le_refl _ | (simp; done) | omega | (simp; omega)) _) | (refine below_drewN ?_ _) | (refine Below.drew ?_) | (refine Below.alloc ?_ (by first | exact Nat.le_refl _ | (simp; done) | omega | (simp; omega)) _) | (refine then_ ?_ (by with_reducible assumption)) | assumption | (refine then_ ?_ (by assumption))))⟩
end Go.Proofs.Ytchkcleenmoajaa
