
/- RunTumble, BouncesOf: the program's. -/
import Derived.Test.YtdjbpbolliphkaaRun
namespace Go.Proofs.Ytdjbpbolliphkaa
open Go.RowKit
attribute [local go_sem] run_store_float run_store_complex

def RunTPost (mir : Int) (gr : Pt) (loss : Nat) (n : Nat) (bs : List Bd) (N : Int) (base : Nat) (e : Ending) (w' : World) : Prop :=
  (∀ b c, runOk mir gr loss bs N = some (b, c) → ∃ B d, e = .returned (.tuple #[tumV mir gr loss (.slice B n d), .bool true]) ∧ w'.ownsRow base 33 2 (.slice B n d) n (flat bdC b)) ∧
  (runOk mir gr loss bs N = none → ∃ B d, e = .returned (.tuple #[tumV mir gr loss (.slice B n d), .bool false]) ∧ w'.ownsRow base 33 2 (.slice B n d) n (flat bdC bs))

set_option maxRecDepth 100000 in
set_option maxHeartbeats 4000000 in
theorem runTumble_any (mir : Int) (gr : Pt) (loss : Nat) (A : Option Addr) (n c : Nat) (bs : List Bd) (N : Int) (w : World) (hn : n ≤ 8) (ha : Rd bdC 2 w w.heap.size A n bs) :
    Calls Try.prog 13 #[.agg #[.int .i64 mir, .complex .f32 gr.1 gr.2, .float .f32 loss, .slice A n c], .int .i64 N] w fun e w' => RunTPost mir gr loss n bs N w.heap.size e w' ∧ Below w.heap.size w w' := by
  go_enter Try.func13, Try.ntmps13
  go_wp2_with fail
  obtain ⟨W, hWe⟩ : ∃ W, W = (w.alloc (Obj.cells #[.int .i64 mir, .complex .f32 gr.1 gr.2, .float .f32 loss, .slice A n c] 37)).alloc (Obj.cells #[.int .i64 0, .complex .f32 0 0, .float .f32 0, .slice none 0 0] 37) := ⟨_, rfl⟩
  have hW : Below w.heap.size w W := by rw [hWe]; (repeat (first | with_reducible assumption | exact Below.refl _ _ | (refine Below.setCell ?_ (by first | exact Nat.le_refl _ | (simp; done) | omega | (simp; omega)) _) | (refine below_drewN ?_ _) | (refine Below.drew ?_) | (refine Below.alloc ?_ (by first | exact Nat.le_refl _ | (simp; done) | omega | (simp; omega)) _) | (refine then_ ?_ (by with_reducible assumption)) | assumption | (refine then_ ?_ (by assumption))))
  have zW : W.heap.size = w.heap.size + 2 := by rw [hWe]; simp
  have d0 : W.cell? ⟨w.heap.size + 1, 0, none⟩ = some (.int .i64 0) := by rw [hWe]; simp [go_sem]
  have d1 : W.cell? ⟨w.heap.size + 1, 1, none⟩ = some (.complex .f32 0 0) := by rw [hWe]; simp [go_sem]
  have d2 : W.cell? ⟨w.heap.size + 1, 2, none⟩ = some (.float .f32 0) := by rw [hWe]; simp [go_sem]
  have d3 : W.cell? ⟨w.heap.size + 1, 3, none⟩ = some (.slice none 0 0) := by rw [hWe]; simp [go_sem]
  have df : ∀ j, W.frozen? ⟨w.heap.size + 1, j, none⟩ = false := by intro j; rw [hWe]; simp [go_sem]
  rw [← hWe]
  clear hWe
  have lW1 : w.heap.size + 1 < W.heap.size := by omega
  have l1 : w.heap.size ≤ w.heap.size + 1 := by omega
  have lle : w.heap.size ≤ W.heap.size := by omega
  refine (run_any mir gr loss A n c bs N _ hn (ha.step hW)).mono ?_
  rintro e w2 ⟨⟨hy, hno⟩, hb⟩
  have f0 := keepF d0 (df 0) hb
  have f1 := keepF d1 (df 1) hb
  have f2 := keepF d2 (df 2) hb
  have f3 := keepF d3 (df 3) hb
  have d0 := keepC d0 hb
  have d1 := keepC d1 hb
  have d2 := keepC d2 hb
  have d3 := keepC d3 hb
  have hW2 := then_ hW hb
  have z2 := hb.size
  have lw2 : w.heap.size + 1 < w2.heap.size := by omega
  clear df hb
  cases hr : runOk mir gr loss bs N with
  | none =>
    obtain ⟨B, d, rfl, ho⟩ := hno hr
    have O2 := Lib.hid ho
    have HR := Lib.hid hr
    simp only [tumV]
    clear hy hno ho hr
    go_wp2
    refine bodyPost_ret (v := .tuple #[tumV mir gr loss (.slice B n d), .bool false]) (by simp [results, Try.results13, go_sem, tumV, d0, d1, d2, d3, lw2]) rfl ⟨⟨fun b c h => (by rw [HR.out] at h; cases h), fun _ => ⟨B, d, rfl, ?_⟩⟩, ((((hW2.setCell l1 _).setCell l1 _).setCell l1 _).setCell l1 _).alloc (by simp; omega) _⟩
    exact owns_mono ((ownsRow_setCell_below (ownsRow_setCell_below (ownsRow_setCell_below (ownsRow_setCell_below O2.out lW1 _) lW1 _) lW1 _) lW1 _).alloc _) lle
  | some r =>
    obtain ⟨b, cc⟩ := r
    obtain ⟨B, d, F, m, rfl, ho, _⟩ := hy b cc hr
    have O2 := Lib.hid ho
    have HR := Lib.hid hr
    simp only [tumV]
    clear hy hno ho hr
    go_wp2
    refine bodyPost_ret (v := .tuple #[tumV mir gr loss (.slice B n d), .bool true]) (by simp [results, Try.results13, go_sem, tumV, d0, d1, d2, d3, lw2]) rfl ⟨⟨fun b' c' h => ?_, fun h => (by rw [HR.out] at h; cases h)⟩, ((((hW2.setCell l1 _).setCell l1 _).setCell l1 _).setCell l1 _).alloc (by simp; omega) _⟩
    rw [HR.out] at h
    injection h with h
    injection h with h1 h2
    subst h1 h2
    exact ⟨B, d, rfl, owns_mono ((ownsRow_setCell_below (ownsRow_setCell_below (ownsRow_setCell_below (ownsRow_setCell_below O2.out lW1 _) lW1 _) lW1 _) lW1 _).alloc _) lle⟩

def BouncePost (mir : Int) (gr : Pt) (loss : Nat) (n : Nat) (bs : List Bd) (N : Int) (base : Nat) (e : Ending) (w' : World) : Prop :=
  (∀ b c, runOk mir gr loss bs N = some (b, c) → ∃ F m, e = .returned (.tuple #[.slice F n m, .bool true]) ∧ w'.ownsRow base 3 1 (.slice F n m) n (flat intC c)) ∧
  (runOk mir gr loss bs N = none → e = .returned (.tuple #[.slice none 0 0, .bool false]))

set_option maxRecDepth 100000 in
set_option maxHeartbeats 4000000 in
theorem bouncesOf_any (mir : Int) (gr : Pt) (loss : Nat) (A : Option Addr) (n c : Nat) (bs : List Bd) (N : Int) (w : World) (hn : n ≤ 8) (ha : Rd bdC 2 w w.heap.size A n bs) :
    Calls Try.prog 22 #[.agg #[.int .i64 mir, .complex .f32 gr.1 gr.2, .float .f32 loss, .slice A n c], .int .i64 N] w fun e w' => BouncePost mir gr loss n bs N w.heap.size e w' ∧ Below w.heap.size w w' := by
  go_enter Try.func22, Try.ntmps22
  go_wp2_with fail
  refine (run_any mir gr loss A n c bs N _ hn (ha.step ?_)).mono ?_
  · (repeat (first | with_reducible assumption | exact Below.refl _ _ | (refine Below.setCell ?_ (by first | exact Nat.le_refl _ | (simp; done) | omega | (simp; omega)) _) | (refine below_drewN ?_ _) | (refine Below.drew ?_) | (refine Below.alloc ?_ (by first | exact Nat.le_refl _ | (simp; done) | omega | (simp; omega)) _) | (refine then_ ?_ (by with_reducible assumption)) | assumption | (refine then_ ?_ (by assumption))))
  rintro e w2 ⟨⟨hy, hno⟩, hb⟩
  have hW2 : Below w.heap.size w w2 := by (repeat (first | with_reducible assumption | exact Below.refl _ _ | (refine Below.setCell ?_ (by first | exact Nat.le_refl _ | (simp; done) | omega | (simp; omega)) _) | (refine below_drewN ?_ _) | (refine Below.drew ?_) | (refine Below.alloc ?_ (by first | exact Nat.le_refl _ | (simp; done) | omega | (simp; omega)) _) | (refine then_ ?_ (by with_reducible assumption)) | assumption | (refine then_ ?_ (by assumption))))
  cases hr : runOk mir gr loss bs N with
  | none =>
    obtain ⟨B, d, rfl, ho⟩ := hno hr
    have HR := Lib.hid hr
    simp only [tumV]
    clear hy hno ho hr hb
    go_wp2
    go_ret2
    exact ⟨⟨fun b c h => (by rw [HR.out] at h; cases h), fun _ => rfl⟩, hW2.alloc hW2.size _⟩
  | some r =>
    obtain ⟨b, cc⟩ := r
    obtain ⟨B, d, F, m, rfl, _, ho⟩ := hy b cc hr
    have O2 := Lib.hid (owns_mono (base := w.heap.size) ho (by simp))
    have HR := Lib.hid hr
    simp only [tumV]
    clear hy hno ho hr hb
    go_wp2
    go_ret2
    refine ⟨⟨fun b' c' h => ?_, fun h => (by rw [HR.out] at h; cases h)⟩, hW2.alloc hW2.size _⟩
    rw [HR.out] at h
    injection h with h
    injection h with h1 h2
    subst h1 h2
    exact ⟨F, m, rfl, O2.out.alloc _⟩
end Go.Proofs.Ytdjbpbolliphkaa
