
/- DrawTaken: what a picture is taken of. -/
import Derived.Test.YtchkcleenmoajaaDrawLs
import Derived.Test.YtchkcleenmoajaaM34
import Derived.Deep.RegionLaw
import Derived.Deep.CutRange
namespace Go.Proofs.Ytchkcleenmoajaa
open Go.RowKit
attribute [local go_sem] run_store_float run_store_complex

def stC (x : Nat) : List Value := [.float .f32 x]
def stepsL : List Nat := [1048576000, 1056964608, 1065353216, 1073741824, 1050253722]
theorem step_in {y st : Nat} (h : stepsL[y]? = some st) : st ∈ stepsL := List.mem_of_getElem? h
/-- the five steps lie in a block -/
def StP (w : World) (g b : Nat) : Prop := (∀ (y : Nat) st, stepsL[y]? = some st → w.cell? ⟨b, y, none⟩ = some (.float .f32 st)) ∧ b < w.heap.size ∧ b ≠ g
theorem stP_new (w : World) (g : Nat) (h : g < w.heap.size) : StP (w.alloc (Obj.cells #[.float .f32 1048576000, .float .f32 1056964608, .float .f32 1065353216, .float .f32 1073741824, .float .f32 1050253722] 25)) g w.heap.size := by
  refine ⟨fun k st hx => ?_, by simp, by omega⟩
  have hk : k < 5 := (List.getElem?_eq_some_iff.1 hx).1
  have hc : k = 0 ∨ k = 1 ∨ k = 2 ∨ k = 3 ∨ k = 4 := by omega
  rcases hc with rfl | rfl | rfl | rfl | rfl <;> (injection hx with hx; subst hx; simp [go_sem])
theorem StP.gro {w w' : World} {g b : Nat} (h : StP w g b) (hg : w.grownBy w' (some g)) : StP w' g b :=
  ⟨fun y st hy => ((gcell hg).1 b y h.2.1 h.2.2).trans (h.1 y st hy), by have := hg.size; have := h.2.1; omega, h.2.2⟩
set_option maxRecDepth 100000 in
set_option maxHeartbeats 8000000 in
theorem drawTaken_any (A : Option Addr) (m c : Nat) (bs : List Int) (w : World) (hm : m ≤ 4096) (hr : Rd byteC 1 w w.heap.size A m bs) (hb : ∀ x ∈ bs, 0 ≤ x ∧ x ≤ 255) :
    Calls Try.prog 6 #[.slice A m c] w fun e w' => ∃ (K q : Nat) (ls : List Sh) (B : Option Addr) (C st cr cg cl : Nat), K < 4 ∧ q < 6 ∧ ls.length ≤ 6 ∧ ls.all okSh = true ∧ st ∈ stepsL ∧ colB (cr, cg, cl) = true ∧ e = .returned (.tuple #[.int .i64 K, .slice B ls.length C, .int .i64 ((q : Int) + 1), .float .f32 st, .agg #[.float .f32 cr, .float .f32 cg, .float .f32 cl]]) ∧ w'.ownsRow w.heap.size 36 7 (.slice B ls.length C) ls.length (flat shC ls) ∧ Below w.heap.size w w' := by
  go_enter Try.func6, Try.ntmps6
  go_wp2_with fail
  obtain ⟨W, hWe⟩ : ∃ W, W = w.alloc (Obj.cells #[.float .f32 0, .float .f32 0, .float .f32 0] 27) := ⟨_, rfl⟩
  have hW : Below w.heap.size w W := by rw [hWe]; (repeat (first | with_reducible assumption | exact Below.refl _ _ | (refine Below.setCell ?_ (by first | exact Nat.le_refl _ | (simp; done) | omega | (simp; omega)) _) | (refine below_drewN ?_ _) | (refine Below.drew ?_) | (refine Below.alloc ?_ (by first | exact Nat.le_refl _ | (simp; done) | omega | (simp; omega)) _) | (refine then_ ?_ (by with_reducible assumption)) | assumption | (refine then_ ?_ (by assumption))))
  have zW : w.heap.size < W.heap.size := by rw [hWe]; simp
  have d0 : W.cell? ⟨w.heap.size, 0, none⟩ = some (.float .f32 0) := by rw [hWe]; simp [go_sem]
  have d1 : W.cell? ⟨w.heap.size, 1, none⟩ = some (.float .f32 0) := by rw [hWe]; simp [go_sem]
  have d2 : W.cell? ⟨w.heap.size, 2, none⟩ = some (.float .f32 0) := by rw [hWe]; simp [go_sem]
  have df : ∀ j, W.frozen? ⟨w.heap.size, j, none⟩ = false := by intro j; rw [hWe]; simp [go_sem]
  rw [← hWe]
  clear hWe
  (with_reducible refine (l1New_any A m c bs _ hm (hr.step hW)).mono ?_)
  rintro e w1 ⟨g, rfl, hg, hc1, hb1⟩
  have hW1 := then_ hW hb1
  have hcb : CurB w1 g A m c bs := ⟨hc1, (hr.below hW1).more (by omega), hc1.lt, hb, by unfold maxLen; omega⟩
  have d0 := keepC d0 hb1
  have d1 := keepC d1 hb1
  have d2 := keepC d2 hb1
  have df := frB df hb1 zW
  have lg := hc1.lt
  have hne : w.heap.size ≠ g := by omega
  have z1 : w.heap.size < w1.heap.size := by omega
  have hwg : w.heap.size ≤ g := by omega
  clear hW hb1 hc1 zW hr hb
  go_wp2_with fail
  go_region_law ((first
    | (go_simp; go_at_call 19; (with_reducible refine (l1BelowC g A m c bs 4 _ (by omega) (by omega) ?_).mono ?_); exact CurB.step hcb (by (repeat (first | with_reducible assumption | exact Below.refl _ _ | (refine Below.setCell ?_ (by first | exact Nat.le_refl _ | (simp; done) | omega | (simp; omega)) _) | (refine below_drewN ?_ _) | (refine Below.drew ?_) | (refine Below.alloc ?_ (by first | exact Nat.le_refl _ | (simp; done) | omega | (simp; omega)) _) | (refine then_ ?_ (by with_reducible assumption)) | assumption | (refine then_ ?_ (by assumption))))); rintro e w2 ⟨K, hK, rfl, hc2, hg2⟩; (first | have ST := StP.gro ST hg2 | have ST := StP.gro (show StP _ g w1.heap.size from stP_new w1 g (by omega)) hg2 | have ST := (show StP w2 g w1.heap.size from StP.gro (stP_new (w1.drew) g (show g < w1.heap.size by omega)) hg2) | have ST := (show StP w2 g w1.heap.size from StP.gro (stP_new (w1.drewN _) g (show g < w1.heap.size by omega)) hg2) | skip); have GG := (show w1.grownBy w2 (some g) from grown_trans (grown_of_below (by (repeat (first | with_reducible assumption | exact Below.refl _ _ | (refine Below.setCell ?_ (by first | exact Nat.le_refl _ | (simp; done) | omega | (simp; omega)) _) | (refine below_drewN ?_ _) | (refine Below.drew ?_) | (refine Below.alloc ?_ (by first | exact Nat.le_refl _ | (simp; done) | omega | (simp; omega)) _) | (refine then_ ?_ (by with_reducible assumption)) | assumption | (refine then_ ?_ (by assumption))))) (some g)) hg2); have lg2 := hc2.2.2.1; clear hg2)
    | (go_simp; go_at_call 20; (with_reducible refine (l3ListC g A m c bs _ ?_).mono ?_); exact CurB.step hc2 (by (repeat (first | with_reducible assumption | exact Below.refl _ _ | (refine Below.setCell ?_ (by first | exact Nat.le_refl _ | (simp; done) | omega | (simp; omega)) _) | (refine below_drewN ?_ _) | (refine Below.drew ?_) | (refine Below.alloc ?_ (by first | exact Nat.le_refl _ | (simp; done) | omega | (simp; omega)) _) | (refine then_ ?_ (by with_reducible assumption)) | assumption | (refine then_ ?_ (by assumption))))); rintro e w3 ⟨ls, B, C, hls, hok, rfl, hown, hc3, hg3⟩; (first | have ST := StP.gro ST hg3 | have ST := StP.gro (show StP _ g w2.heap.size from stP_new w2 g (by omega)) hg3 | have ST := (show StP w3 g w2.heap.size from StP.gro (stP_new (w2.drew) g (show g < w2.heap.size by omega)) hg3) | have ST := (show StP w3 g w2.heap.size from StP.gro (stP_new (w2.drewN _) g (show g < w2.heap.size by omega)) hg3) | skip); have g3 := (show w2.grownBy w3 (some g) from grown_trans (grown_of_below (by (repeat (first | with_reducible assumption | exact Below.refl _ _ | (refine Below.setCell ?_ (by first | exact Nat.le_refl _ | (simp; done) | omega | (simp; omega)) _) | (refine below_drewN ?_ _) | (refine Below.drew ?_) | (refine Below.alloc ?_ (by first | exact Nat.le_refl _ | (simp; done) | omega | (simp; omega)) _) | (refine then_ ?_ (by with_reducible assumption)) | assumption | (refine then_ ?_ (by assumption))))) (some g)) hg3); have z2 := GG.size; have OFg := off_lt hown (show g < _ by first | omega | (simp; omega) | (show g < w2.heap.size; omega)); have OFw := off_lt hown (show w.heap.size < _ by first | omega | (simp; omega) | (show w.heap.size < w2.heap.size; omega)); have OL := owns_mono (base := w.heap.size) hown (by first | omega | (simp; omega) | (show w.heap.size ≤ w2.heap.size; omega)); have GG := grown_trans GG g3; have lg3 := hc3.2.2.1; clear hg3 hown g3)
    | (go_simp; go_at_call 21; (with_reducible refine (l1SomeC g A m c bs 1 6 _ (by omega) (by omega) (by omega) ?_).mono ?_); exact CurB.step hc3 (by (repeat (first | with_reducible assumption | exact Below.refl _ _ | (refine Below.setCell ?_ (by first | exact Nat.le_refl _ | (simp; done) | omega | (simp; omega)) _) | (refine below_drewN ?_ _) | (refine Below.drew ?_) | (refine Below.alloc ?_ (by first | exact Nat.le_refl _ | (simp; done) | omega | (simp; omega)) _) | (refine then_ ?_ (by with_reducible assumption)) | assumption | (refine then_ ?_ (by assumption))))); rintro e w4 ⟨q, hq0, hq1, rfl, hc4, hg4⟩; (first | have ST := StP.gro ST hg4 | have ST := StP.gro (show StP _ g w3.heap.size from stP_new w3 g (by omega)) hg4 | have ST := (show StP w4 g w3.heap.size from StP.gro (stP_new (w3.drew) g (show g < w3.heap.size by omega)) hg4) | have ST := (show StP w4 g w3.heap.size from StP.gro (stP_new (w3.drewN _) g (show g < w3.heap.size by omega)) hg4) | skip); have g4 := (show w3.grownBy w4 (some g) from grown_trans (grown_of_below (by (repeat (first | with_reducible assumption | exact Below.refl _ _ | (refine Below.setCell ?_ (by first | exact Nat.le_refl _ | (simp; done) | omega | (simp; omega)) _) | (refine below_drewN ?_ _) | (refine Below.drew ?_) | (refine Below.alloc ?_ (by first | exact Nat.le_refl _ | (simp; done) | omega | (simp; omega)) _) | (refine then_ ?_ (by with_reducible assumption)) | assumption | (refine then_ ?_ (by assumption))))) (some g)) hg4); have OL := owns_grown OL g4 (fun k hk => (by injection hk with hk; rw [← hk]; exact OFg)); have GG := grown_trans GG g4; have lg4 := hc4.2.2.1; clear hg4 g4)
    | (go_simp; go_at_call 19; (with_reducible refine (l1BelowC g A m c bs 5 _ (by omega) (by omega) ?_).mono ?_); exact CurB.step hc4 (by (repeat (first | with_reducible assumption | exact Below.refl _ _ | (refine Below.setCell ?_ (by first | exact Nat.le_refl _ | (simp; done) | omega | (simp; omega)) _) | (refine below_drewN ?_ _) | (refine Below.drew ?_) | (refine Below.alloc ?_ (by first | exact Nat.le_refl _ | (simp; done) | omega | (simp; omega)) _) | (refine then_ ?_ (by with_reducible assumption)) | assumption | (refine then_ ?_ (by assumption))))); rintro e w5 ⟨y, hy, rfl, hc5, hg5⟩; (first | have ST := StP.gro ST hg5 | have ST := StP.gro (show StP _ g w4.heap.size from stP_new w4 g (by omega)) hg5 | have ST := (show StP w5 g w4.heap.size from StP.gro (stP_new (w4.drew) g (show g < w4.heap.size by omega)) hg5) | have ST := (show StP w5 g w4.heap.size from StP.gro (stP_new (w4.drewN _) g (show g < w4.heap.size by omega)) hg5) | skip); have g5 := (show w4.grownBy w5 (some g) from grown_trans (grown_of_below (by (repeat (first | with_reducible assumption | exact Below.refl _ _ | (refine Below.setCell ?_ (by first | exact Nat.le_refl _ | (simp; done) | omega | (simp; omega)) _) | (refine below_drewN ?_ _) | (refine Below.drew ?_) | (refine Below.alloc ?_ (by first | exact Nat.le_refl _ | (simp; done) | omega | (simp; omega)) _) | (refine then_ ?_ (by with_reducible assumption)) | assumption | (refine then_ ?_ (by assumption))))) (some g)) hg5); have OL := owns_grown OL g5 (fun k hk => (by injection hk with hk; rw [← hk]; exact OFg)); have GG := grown_trans GG g5; have lg5 := hc5.2.2.1; obtain ⟨st, hst⟩ := (show ∃ st, stepsL[y]? = some st from ⟨_, List.getElem?_eq_getElem (show y < 5 by omega)⟩); have hy0 := (show (0 : Int) ≤ (y : Int) by omega); have hy5 := (show (y : Int) < 5 by omega); (try have mc := ST.1 y st hst); have mn := (stP_new w5 g lg5).1 y st hst; clear hg5 g5)
    | (go_simp; go_at_call 22; (with_reducible refine (l2DrawC g A m c bs _ ?_).mono ?_); exact CurB.step hc5 (by (repeat (first | with_reducible assumption | exact Below.refl _ _ | (refine Below.setCell ?_ (by first | exact Nat.le_refl _ | (simp; done) | omega | (simp; omega)) _) | (refine below_drewN ?_ _) | (refine Below.drew ?_) | (refine Below.alloc ?_ (by first | exact Nat.le_refl _ | (simp; done) | omega | (simp; omega)) _) | (refine then_ ?_ (by with_reducible assumption)) | assumption | (refine then_ ?_ (by assumption))))); rintro e w6 ⟨cr, cg, cl, hcol, rfl, hc6, hg6⟩; (first | have ST := StP.gro ST hg6 | have ST := StP.gro (show StP _ g w5.heap.size from stP_new w5 g (by omega)) hg6 | have ST := (show StP w6 g w5.heap.size from StP.gro (stP_new (w5.drew) g (show g < w5.heap.size by omega)) hg6) | have ST := (show StP w6 g w5.heap.size from StP.gro (stP_new (w5.drewN _) g (show g < w5.heap.size by omega)) hg6) | skip); have g6 := (show w5.grownBy w6 (some g) from grown_trans (grown_of_below (by (repeat (first | with_reducible assumption | exact Below.refl _ _ | (refine Below.setCell ?_ (by first | exact Nat.le_refl _ | (simp; done) | omega | (simp; omega)) _) | (refine below_drewN ?_ _) | (refine Below.drew ?_) | (refine Below.alloc ?_ (by first | exact Nat.le_refl _ | (simp; done) | omega | (simp; omega)) _) | (refine then_ ?_ (by with_reducible assumption)) | assumption | (refine then_ ?_ (by assumption))))) (some g)) hg6); have OL := owns_grown OL g6 (fun k hk => (by injection hk with hk; rw [← hk]; exact OFg)); have GG := grown_trans GG g6; (try have mc := ST.1 y st hst); have d0 := ((gcell GG).1 w.heap.size 0 z1 hne).trans d0; have d1 := ((gcell GG).1 w.heap.size 1 z1 hne).trans d1; have d2 := ((gcell GG).1 w.heap.size 2 z1 hne).trans d2; have df := fun j => ((gcell GG).2 w.heap.size j z1 hne).trans (df j); have mn := (stP_new w6 g hc6.2.2.1).1 y st hst; have f0 := df 0; have f1 := df 1; have f2 := df 2; have l6 := (show w.heap.size < w6.heap.size from World.block_lt_of_cell? _ _ d0); clear hg6 g6)))
  all_goals
    obtain ⟨q', rfl⟩ : ∃ q' : Nat, q = (q' : Int) + 1 := ⟨(q - 1).toNat, by omega⟩
    have B6 := below_of_grown hW1 GG hwg
    try clear ST
    try clear ST
    try clear ST
    try clear ST
    try clear mc
    try clear mc
    clear mn
    clear hc2 hc3 hc4 hc5 hc6 hcb df
    go_wp2
    refine bodyPost_ret (v := .tuple #[.int .i64 K, .slice B ls.length C, .int .i64 ((q' : Int) + 1), .float .f32 st, .agg #[.float .f32 cr, .float .f32 cg, .float .f32 cl]]) (by simp [results, Try.results6, go_sem, d0, d1, d2, l6]) rfl ⟨K, q', ls, B, C, st, cr, cg, cl, by omega, by omega, hls, hok, List.mem_of_getElem? hst, hcol, rfl, ?_, by (repeat (first | with_reducible assumption | exact Below.refl _ _ | (refine Below.setCell ?_ (by first | exact Nat.le_refl _ | (simp; done) | omega | (simp; omega)) _) | (refine below_drewN ?_ _) | (refine Below.drew ?_) | (refine Below.alloc ?_ (by first | exact Nat.le_refl _ | (simp; done) | omega | (simp; omega)) _) | (refine then_ ?_ (by with_reducible assumption)) | assumption | (refine then_ ?_ (by assumption))))⟩
    (repeat (first | exact OL | exact own_drewN OL _ | (refine World.ownsRow.alloc ?_ _) | (refine own_set ?_ OFw _ _)))
end Go.Proofs.Ytchkcleenmoajaa
