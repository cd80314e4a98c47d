
/- InWedge, FoldPoint, plus: the program's. -/
import Derived.Test.YtkhlaifjfdecoaaSyms
import Derived.Test.YtkhlaifjfdecoaaReg
import Derived.Test.YtkhlaifjfdecoaaKept
import Derived.Deep.RegionLaw
namespace Go.Proofs.Ytkhlaifjfdecoaa
open Go.RowKit
attribute [local go_sem] run_store_float run_store_complex

abbrev Pt := Nat × Nat
def plusP (a b : Pt) : Pt := (addB a.1 b.1, addB a.2 b.2)
def sideB (kind : Int) (p : Pt) : Bool := if kind = 0 then true else if kind = 1 then geB p.2 0 else if kind = 2 then geB p.1 0 && geB p.2 0 else if kind = 3 then leB 0 p.2 && leB p.2 p.1 else false
def wedgeB (kind : Int) (p : Pt) : Bool := pointB p.1 p.2 && sideB kind p

set_option maxHeartbeats 2000000 in
theorem inWedge_any (kind : Int) (p : Pt) (w : World) :
    Calls Try.prog 56 #[.int .i64 kind, .complex .f32 p.1 p.2] w fun e w' => e = .returned (.bool (wedgeB kind p)) ∧ w = w' := by
  cases h0 : pointB p.1 p.2
  · have R := Lib.hid (show wedgeB kind p = false by unfold wedgeB; rw [h0]; rfl)
    go_enter Try.func56, Try.ntmps56
    go_wp2_with (go_at_call 53; refine (isPoint_any _ _ _).mono ?_; rintro e w' ⟨rfl, rfl⟩; simp only [h0])
    go_ret
    exact ⟨by rw [R.out]; rfl, rfl⟩
  · have R := Lib.hid (show wedgeB kind p = sideB kind p by unfold wedgeB; rw [h0]; rfl)
    by_cases k0 : kind = 0
    · subst k0
      go_enter Try.func56, Try.ntmps56
      go_wp2_with (go_at_call 53; refine (isPoint_any _ _ _).mono ?_; rintro e w' ⟨rfl, rfl⟩; simp only [h0])
      go_ret
      exact ⟨by rw [R.out]; rfl, rfl⟩
    · by_cases k1 : kind = 1
      · subst k1
        go_enter Try.func56, Try.ntmps56
        go_wp2_with (go_at_call 53; refine (isPoint_any _ _ _).mono ?_; rintro e w' ⟨rfl, rfl⟩; simp only [h0])
        go_ret
        exact ⟨by rw [R.out]; rfl, rfl⟩
      · by_cases k2 : kind = 2
        · subst k2
          cases h1 : geB p.1 0
          all_goals
            have S := Lib.hid (show sideB 2 p = (geB p.1 0 && geB p.2 0) from rfl)
            have e1 : (FloatKind.f32.format.order p.1 0 == some .gt || FloatKind.f32.format.order p.1 0 == some .eq) = geB p.1 0 := rfl
            rw [h1] at e1
            have H1 := Lib.hid h1
            clear h1
            go_enter Try.func56, Try.ntmps56
            go_wp2_with (go_at_call 53; refine (isPoint_any _ _ _).mono ?_; rintro e w' ⟨rfl, rfl⟩; simp only [h0])
            go_ret
            exact ⟨by rw [R.out, S.out, H1.out]; rfl, rfl⟩
        · by_cases k3 : kind = 3
          · subst k3
            cases h1 : leB 0 p.2
            all_goals
              have S := Lib.hid (show sideB 3 p = (leB 0 p.2 && leB p.2 p.1) from rfl)
              have e1 : (FloatKind.f32.format.order 0 p.2 == some .lt || FloatKind.f32.format.order 0 p.2 == some .eq) = leB 0 p.2 := rfl
              rw [h1] at e1
              have H1 := Lib.hid h1
              clear h1
              go_enter Try.func56, Try.ntmps56
              go_wp2_with (go_at_call 53; refine (isPoint_any _ _ _).mono ?_; rintro e w' ⟨rfl, rfl⟩; simp only [h0])
              go_ret
              exact ⟨by rw [R.out, S.out, H1.out]; rfl, rfl⟩
          · have S := Lib.hid (show sideB kind p = false by simp [sideB, k0, k1, k2, k3])
            go_enter Try.func56, Try.ntmps56
            go_wp2_with (go_at_call 53; refine (isPoint_any _ _ _).mono ?_; rintro e w' ⟨rfl, rfl⟩; simp only [h0])
            go_ret
            exact ⟨by rw [R.out, S.out]; rfl, rfl⟩

def foldG (kind : Int) (z : Pt) (l : List (Int × Bool)) : Pt × (Int × Bool) × Bool := match l.find? (fun g => wedgeB kind (actP g.1 g.2 z.1 z.2)) with
  | some g => (actP g.1 g.2 z.1 z.2, g, true)
  | none => ((0, 0), (0, false), false)
def foldP (kind : Int) (z : Pt) : Pt × (Int × Bool) × Bool := if pointB z.1 z.2 then foldG kind z (symsL kind) else ((0, 0), (0, false), false)
theorem foldG_hit {kind : Int} {z : Pt} {l : List (Int × Bool)} {k : Nat} {g : Int × Bool} (hx : l[k]? = some g) (hall : ∀ (i : Nat) y, i < k → l[i]? = some y → wedgeB kind (actP y.1 y.2 z.1 z.2) = false) (h : wedgeB kind (actP g.1 g.2 z.1 z.2) = true) : foldG kind z l = (actP g.1 g.2 z.1 z.2, g, true) := by
  unfold foldG
  have : l.find? (fun g => wedgeB kind (actP g.1 g.2 z.1 z.2)) = some g := by
    have hk := (List.getElem?_eq_some_iff.1 hx)
    obtain ⟨hk1, hk2⟩ := hk
    rw [List.find?_eq_some_iff_getElem]
    exact ⟨h, k, hk1, hk2, fun j hj => by simpa using hall j _ hj (List.getElem?_eq_getElem (by omega))⟩
  rw [this]
theorem foldG_miss {kind : Int} {z : Pt} {l : List (Int × Bool)} (hall : ∀ (i : Nat) y, l[i]? = some y → wedgeB kind (actP y.1 y.2 z.1 z.2) = false) : foldG kind z l = ((0, 0), (0, false), false) := by
  unfold foldG
  have : l.find? (fun g => wedgeB kind (actP g.1 g.2 z.1 z.2)) = none := by
    rw [List.find?_eq_none]
    intro x hx
    obtain ⟨i, hi⟩ := List.getElem?_of_mem hx
    simp [hall i x hi]
  rw [this]
def foldV (r : Pt × (Int × Bool) × Bool) : Value := .tuple #[.complex .f32 r.1.1 r.1.2, .agg #[.int .i64 r.2.1.1, .bool r.2.1.2], .bool r.2.2]

end Go.Proofs.Ytkhlaifjfdecoaa
