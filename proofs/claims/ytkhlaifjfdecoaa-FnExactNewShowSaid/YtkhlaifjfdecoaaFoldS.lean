
/- IsPoint, l1Wedge, FoldPoint: the specification's. -/
import Derived.Test.YtkhlaifjfdecoaaFold
import Derived.Test.YtkhlaifjfdecoaaCol
namespace Go.Proofs.Ytkhlaifjfdecoaa
open Go.RowKit
attribute [local go_sem] run_store_float run_store_complex

set_option maxHeartbeats 2000000 in
theorem specIsPoint_any (re im : Nat) (w : World) :
    Calls Try.prog 45 #[.complex .f32 re im] w fun e w' => e = .returned (.bool (pointB re im)) ∧ Dr w w' := by
  cases hf : finB re
  · have R := Lib.hid (show pointB re im = false by
      cases h : pointB re im
      · rfl
      · unfold pointB at h; rw [Bool.and_eq_true] at h; rw [reach_fin h.1] at hf; cases hf)
    go_enter Try.func45, Try.ntmps45
    go_wp2_with (go_at_call 24; refine (l1Single_any _ _).mono ?_; rintro e w' ⟨rfl, n, rfl⟩; simp only [hf])
    go_ret
    exact ⟨by rw [R.out]; rfl, Dr.drewN _ _⟩
  · cases hg : finB im
    · have R := Lib.hid (show pointB re im = false by
        cases h : pointB re im
        · rfl
        · unfold pointB at h; rw [Bool.and_eq_true] at h; rw [reach_fin h.2] at hg; cases hg)
      go_enter Try.func45, Try.ntmps45
      go_wp2_with fail
      refine (l1Single_any _ _).mono ?_
      rintro e w' ⟨rfl, n, rfl⟩
      simp only [hf]
      go_wp2_with fail
      refine (l1Single_any _ _).mono ?_
      rintro e w' ⟨rfl, m, rfl⟩
      simp only [hg]
      go_wp2
      go_ret
      exact ⟨by rw [R.out]; rfl, Dr.drewN _ _⟩
    · have r : pointB re im = ((geB re 3313500160 && leB re 1166016512) && (geB im 3313500160 && leB im 1166016512)) := rfl
      have e1 : (FloatKind.f32.format.order re 3313500160 == some .gt || FloatKind.f32.format.order re 3313500160 == some .eq) = geB re 3313500160 := rfl
      have e2 : (FloatKind.f32.format.order re 1166016512 == some .lt || FloatKind.f32.format.order re 1166016512 == some .eq) = leB re 1166016512 := rfl
      have e3 : (FloatKind.f32.format.order im 3313500160 == some .gt || FloatKind.f32.format.order im 3313500160 == some .eq) = geB im 3313500160 := rfl
      have e4 : (FloatKind.f32.format.order im 1166016512 == some .lt || FloatKind.f32.format.order im 1166016512 == some .eq) = leB im 1166016512 := rfl
      have R := Lib.hid r
      clear r
      cases h1 : geB re 3313500160
      · rw [h1] at e1 R
        go_enter Try.func45, Try.ntmps45
        go_wp2_with fail
        refine (l1Single_any _ _).mono ?_
        rintro e w' ⟨rfl, n, rfl⟩
        simp only [hf]
        go_wp2_with fail
        refine (l1Single_any _ _).mono ?_
        rintro e w' ⟨rfl, m, rfl⟩
        simp only [hg]
        go_wp2
        go_ret
        exact ⟨by rw [R.out]; rfl, Dr.drewN _ _⟩
      · cases h2 : leB re 1166016512
        · rw [h1] at e1 R
          rw [h2] at e2 R
          go_enter Try.func45, Try.ntmps45
          go_wp2_with fail
          refine (l1Single_any _ _).mono ?_
          rintro e w' ⟨rfl, n, rfl⟩
          simp only [hf]
          go_wp2_with fail
          refine (l1Single_any _ _).mono ?_
          rintro e w' ⟨rfl, m, rfl⟩
          simp only [hg]
          go_wp2
          go_ret
          exact ⟨by rw [R.out]; rfl, Dr.drewN _ _⟩
        · cases h3 : geB im 3313500160
          · rw [h1] at e1 R
            rw [h2] at e2 R
            rw [h3] at e3 R
            go_enter Try.func45, Try.ntmps45
            go_wp2_with fail
            refine (l1Single_any _ _).mono ?_
            rintro e w' ⟨rfl, n, rfl⟩
            simp only [hf]
            go_wp2_with fail
            refine (l1Single_any _ _).mono ?_
            rintro e w' ⟨rfl, m, rfl⟩
            simp only [hg]
            go_wp2
            go_ret
            exact ⟨by rw [R.out]; rfl, Dr.drewN _ _⟩
          · cases h4 : leB im 1166016512
            all_goals
              rw [h1] at e1 R
              rw [h2] at e2 R
              rw [h3] at e3 R
              rw [h4] at e4 R
              go_enter Try.func45, Try.ntmps45
              go_wp2_with fail
              refine (l1Single_any _ _).mono ?_
              rintro e w' ⟨rfl, n, rfl⟩
              simp only [hf]
              go_wp2_with fail
              refine (l1Single_any _ _).mono ?_
              rintro e w' ⟨rfl, m, rfl⟩
              simp only [hg]
              go_wp2
              go_ret
              exact ⟨by rw [R.out]; rfl, Dr.drewN _ _⟩

def sideS (kind : Int) (p : Pt) : Bool := if kind = 0 then true else if kind = 1 then geB p.2 0 else if kind = 2 then geB p.1 0 && geB p.2 0 else if kind = 3 then geB p.2 0 && leB p.2 p.1 else false
set_option maxHeartbeats 2000000 in
theorem l1Wedge_any (kind : Int) (p : Pt) (w : World) :
    Calls Try.prog 59 #[.int .i64 kind, .complex .f32 p.1 p.2] w fun e w' => e = .returned (.bool (sideS kind p)) ∧ w = w' := by
  by_cases k1 : kind = 1
  · subst k1
    go_enter Try.func59, Try.ntmps59
    go_wp2
    go_ret
    exact ⟨rfl, rfl⟩
  · by_cases k2 : kind = 2
    · subst k2
      cases h1 : geB p.1 0
      all_goals
        have S := Lib.hid (show sideS 2 p = (geB p.1 0 && geB p.2 0) from rfl)
        have e1 : (FloatKind.f32.format.order p.1 0 == some .gt || FloatKind.f32.format.order p.1 0 == some .eq) = geB p.1 0 := rfl
        rw [h1] at e1
        have H1 := Lib.hid h1
        clear h1
        go_enter Try.func59, Try.ntmps59
        go_wp2
        go_ret
        exact ⟨by rw [S.out, H1.out]; rfl, rfl⟩
    · by_cases k3 : kind = 3
      · subst k3
        cases h1 : geB p.2 0
        all_goals
          have S := Lib.hid (show sideS 3 p = (geB p.2 0 && leB p.2 p.1) from rfl)
          have e1 : (FloatKind.f32.format.order p.2 0 == some .gt || FloatKind.f32.format.order p.2 0 == some .eq) = geB p.2 0 := rfl
          rw [h1] at e1
          have H1 := Lib.hid h1
          clear h1
          go_enter Try.func59, Try.ntmps59
          go_wp2
          go_ret
          exact ⟨by rw [S.out, H1.out]; rfl, rfl⟩
      · by_cases k0 : kind = 0
        · subst k0
          go_enter Try.func59, Try.ntmps59
          go_wp2
          go_ret
          exact ⟨rfl, rfl⟩
        · have S := Lib.hid (show sideS kind p = false by simp [sideS, k0, k1, k2, k3])
          go_enter Try.func59, Try.ntmps59
          go_wp2
          go_ret
          have hk0 : (kind == 0) = false := by simpa using k0
          exact ⟨by rw [S.out]; show Ending.returned (.bool (kind == 0)) = _; rw [hk0], rfl⟩

def foldH (kind : Int) (z : Pt) (l : List (Int × Bool)) : Pt × (Int × Bool) × Bool := match l.find? (fun g => sideS kind (actS g.1 g.2 z.1 z.2)) with
  | some g => (actS g.1 g.2 z.1 z.2, g, true)
  | none => ((0, 0), (0, false), false)
def foldS (kind : Int) (z : Pt) : Pt × (Int × Bool) × Bool := if pointB z.1 z.2 then foldH kind z (symsL kind) else ((0, 0), (0, false), false)
theorem foldH_hit {kind : Int} {z : Pt} {l : List (Int × Bool)} {k : Nat} {g : Int × Bool} (hx : l[k]? = some g) (hall : ∀ (i : Nat) y, i < k → l[i]? = some y → sideS kind (actS y.1 y.2 z.1 z.2) = false) (h : sideS kind (actS g.1 g.2 z.1 z.2) = true) : foldH kind z l = (actS g.1 g.2 z.1 z.2, g, true) := by
  unfold foldH
  have : l.find? (fun g => sideS kind (actS g.1 g.2 z.1 z.2)) = some g := by
    obtain ⟨hk1, hk2⟩ := (List.getElem?_eq_some_iff.1 hx)
    rw [List.find?_eq_some_iff_getElem]
    exact ⟨h, k, hk1, hk2, fun j hj => by simpa using hall j _ hj (List.getElem?_eq_getElem (by omega))⟩
  rw [this]
theorem foldH_miss {kind : Int} {z : Pt} {l : List (Int × Bool)} (hall : ∀ (i : Nat) y, l[i]? = some y → sideS kind (actS y.1 y.2 z.1 z.2) = false) : foldH kind z l = ((0, 0), (0, false), false) := by
  unfold foldH
  have : l.find? (fun g => sideS kind (actS g.1 g.2 z.1 z.2)) = none := by
    rw [List.find?_eq_none]
    intro x hx
    obtain ⟨i, hi⟩ := List.getElem?_of_mem hx
    simp [hall i x hi]
  rw [this]
theorem symsL_in {kind : Int} : ∀ g ∈ symsL kind, inB g.1 0 3 = true := by
  intro g hg
  unfold symsL symsUp at hg
  obtain ⟨h1, _⟩ := List.mem_filter.1 hg
  obtain ⟨k, hk, rfl⟩ := List.mem_map.1 h1
  exact sym8_t k (by simpa using hk)

end Go.Proofs.Ytkhlaifjfdecoaa
