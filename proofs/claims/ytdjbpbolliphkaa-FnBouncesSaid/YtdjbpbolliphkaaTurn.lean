
/- TurnTumble of a tumble that stays valid: the program's. -/
import Derived.Test.YtdjbpbolliphkaaTumR
import Derived.Test.YtdjbpbolliphkaaTumA
import Derived.Deep.RegionHeld3
namespace Go.Proofs.Ytdjbpbolliphkaa
open Go.RowKit
attribute [local go_sem] run_store_float run_store_complex

def turnBd (t : Int) (f : Bool) (b : Bd) : Bd := (actP t f b.1.1 b.1.2, actP t f b.2.1 b.2.2)
def turnL (t : Int) (f : Bool) (bs : List Bd) : List Bd := bs.map (turnBd t f)
theorem setKeep {w W : World} {gs B : Nat} (h : ∀ b o, b < B → ¬ b = gs → w.cell? ⟨b, o, none⟩ = W.cell? ⟨b, o, none⟩) (j : Nat) (u : Value) : ∀ b o, b < B → ¬ b = gs → (w.setCell ⟨gs, j, none⟩ u).cell? ⟨b, o, none⟩ = W.cell? ⟨b, o, none⟩ :=
  fun b o hb hn => (World.cell?_setCell_other w ⟨gs, j, none⟩ ⟨b, o, none⟩ u (fun e => hn (by injection e with e1; exact e1.symm))).trans (h b o hb hn)

set_option maxRecDepth 100000 in
set_option maxHeartbeats 8000000 in
theorem turnTumble_yes (mir : Int) (gr : Pt) (loss : Nat) (t : Int) (f : Bool) (A : Option Addr) (n c : Nat) (bs : List Bd) (w : World) (hn : n ≤ 8) (ht : inB t 0 3 = true) (hT : tumB mir gr loss bs = true) (hO : tumB mir (actP t f gr.1 gr.2) loss (turnL t f bs) = true) (ha : Rd bdC 2 w w.heap.size A n bs) :
    Calls Try.prog 19 #[.agg #[.int .i64 mir, .complex .f32 gr.1 gr.2, .float .f32 loss, .slice A n c], .agg #[.int .i64 t, .bool f]] w fun e w' => (∃ B d, e = .returned (.tuple #[tumV mir (actP t f gr.1 gr.2) loss (.slice B n d), .bool true]) ∧ w'.ownsRow w.heap.size 33 2 (.slice B n d) n (flat bdC (turnL t f bs))) ∧ Below w.heap.size w w' := by
  have HL := Lib.hid ha.1
  obtain ⟨gl, hgl⟩ : ∃ gl, gl = turnL t f bs := ⟨_, rfl⟩
  have GL := Lib.hid hgl
  have hgll : gl.length = bs.length := by rw [hgl]; simp [turnL]
  obtain ⟨G, hG⟩ : ∃ G, G = actP t f gr.1 gr.2 := ⟨_, rfl⟩
  have HG := Lib.hid hG
  rw [← hG, ← hgl] at hO
  rw [← hG, ← hgl]
  have HO := Lib.hid hO
  clear hgl hG hO
  go_enter Try.func19, Try.ntmps19
  go_wp2_with fail
  obtain ⟨W, hWe⟩ : ∃ W, W = ((w.alloc (Obj.cells #[.int .i64 mir, .complex .f32 gr.1 gr.2, .float .f32 loss, .slice A n c] 37)).alloc (Obj.cells #[.int .i64 t, .bool f] 28)).alloc (Obj.cells #[.int .i64 0, .complex .f32 0 0, .float .f32 0, .slice none 0 0] 37) := ⟨_, rfl⟩
  have hW : Below w.heap.size w W := by rw [hWe]; (repeat (first | with_reducible assumption | exact Below.refl _ _ | (refine Below.setCell ?_ (by first | exact Nat.le_refl _ | (simp; done) | omega | (simp; omega)) _) | (refine below_drewN ?_ _) | (refine Below.drew ?_) | (refine Below.alloc ?_ (by first | exact Nat.le_refl _ | (simp; done) | omega | (simp; omega)) _) | (refine then_ ?_ (by with_reducible assumption)) | assumption | (refine then_ ?_ (by assumption))))
  have zW : W.heap.size = w.heap.size + 3 := by rw [hWe]; simp
  have CB : BoxT W w.heap.size mir gr loss (.slice A n c) := by rw [hWe]; exact ⟨by simp [go_sem], by simp [go_sem], by simp [go_sem], by simp [go_sem]⟩
  have SB : W.cell? ⟨w.heap.size + 1, 0, none⟩ = some (.int .i64 t) ∧ W.cell? ⟨w.heap.size + 1, 1, none⟩ = some (.bool f) := by rw [hWe]; exact ⟨by simp [go_sem], by simp [go_sem]⟩
  have DB : BoxT W (w.heap.size + 1 + 1) 0 (0, 0) 0 (.slice none 0 0) := by rw [hWe]; exact ⟨by simp [go_sem], by simp [go_sem], by simp [go_sem], by simp [go_sem]⟩
  have df : ∀ j, W.frozen? ⟨w.heap.size + 1 + 1, j, none⟩ = false := by intro j; rw [hWe]; simp [go_sem]
  have DF := Lib.hid df
  have CW := Lib.hid CB
  have SW := Lib.hid SB
  have DW := Lib.hid DB
  rw [← hWe]
  clear hWe df
  refine (isTumble_any mir gr loss A n c bs _ hn (ha.step hW)).mono ?_
  rw [hT]
  rintro e w1 ⟨rfl, hb1⟩
  obtain ⟨c0, c1, c2, c3⟩ := CB.keep hb1
  have s0 := keepC SB.1 hb1
  have s1 := keepC SB.2 hb1
  have z1 := hb1.size
  have lb0 : w.heap.size < w1.heap.size := by omega
  have lb1 : w.heap.size + 1 < w1.heap.size := by omega
  clear CB SB DB
  go_wp2_with fail
  refine (isSym_any t f _).mono ?_
  rw [ht]
  rintro e w2 ⟨rfl, hb2'⟩
  have hb2 := then_ hb1 hb2'
  obtain ⟨c0, c1, c2, c3⟩ := CW.out.keep hb2
  have z2 := hb2.size
  have lb0 : w.heap.size < w2.heap.size := by omega
  clear hb1 hb2' s0 s1
  go_wp2_with fail
  refine (cloneTumble_any mir gr loss A n c bs _ hn (ha.step (then_ hW hb2))).mono ?_
  rintro e w3 ⟨B, d, rfl, ho3, hb3'⟩
  have hb3 := then_ hb2 hb3'
  have ho3x := owns_mono (base := W.heap.size) ho3 hb2.size
  have OFB := Lib.hid (off_ge ho3 (Nat.le_refl _))
  clear ho3
  obtain ⟨c0, c1, c2, c3⟩ := CW.out.keep hb3
  have s0 := keepC SW.out.1 hb3
  have s1 := keepC SW.out.2 hb3
  have z3 := hb3.size
  have lb0 : w.heap.size < w3.heap.size := by omega
  have lb1 : w.heap.size + 1 < w3.heap.size := by omega
  clear hb2 hb3'
  go_wp2_with fail
  obtain ⟨V, hVe⟩ : ∃ V, V = w3.alloc (Obj.cells #[.int .i64 mir, .complex .f32 gr.1 gr.2, .float .f32 loss, .slice B n d] 37) := ⟨_, rfl⟩
  have hV : Below w3.heap.size w3 V := by rw [hVe]; (repeat (first | with_reducible assumption | exact Below.refl _ _ | (refine Below.setCell ?_ (by first | exact Nat.le_refl _ | (simp; done) | omega | (simp; omega)) _) | (refine below_drewN ?_ _) | (refine Below.drew ?_) | (refine Below.alloc ?_ (by first | exact Nat.le_refl _ | (simp; done) | omega | (simp; omega)) _) | (refine then_ ?_ (by with_reducible assumption)) | assumption | (refine then_ ?_ (by assumption))))
  have EB : BoxT V w3.heap.size mir gr loss (.slice B n d) := by rw [hVe]; exact boxT_new _ _ _ _ _ _
  have ef : ∀ j, V.frozen? ⟨w3.heap.size, j, none⟩ = false := by intro j; rw [hVe]; simp [go_sem]
  rw [← hVe]
  have oV := owns_below ho3x hV
  have eVl := EB.lt
  have hbV := then_ hb3 hV
  clear hVe ho3x c0 c1 c2 c3 s0 s1 hb3
  refine (actSym_any t f gr.1 gr.2 _).mono ?_
  rw [← HG.out]
  rintro e w4 ⟨rfl, hb4⟩
  have EB := EB.keep hb4
  have e3l := EB.lt
  have ef1 := (hb4.frozen (p := ⟨w3.heap.size, 1, none⟩) (show w3.heap.size < V.heap.size from eVl)).trans (ef 1)
  have oV := owns_below oV hb4
  have hb4' := then_ hbV hb4
  obtain ⟨c0, c1, c2, c3⟩ := CW.out.keep hb4'
  obtain ⟨e0, e1, e2, e3⟩ := EB
  have lb0 : w.heap.size < w4.heap.size := World.block_lt_of_cell? _ _ c0
  have n01 : ¬ w.heap.size = w3.heap.size := by omega
  have n10 : ¬ w3.heap.size = w.heap.size := by omega
  simp only [cxV]
  clear hbV hb4 hV ef eVl
  go_wp2_with fail
  obtain ⟨V2, hV2⟩ : ∃ V, V = w4.setCell ⟨w3.heap.size, 1, none⟩ (.complex .f32 G.1 G.2) := ⟨_, rfl⟩
  have lW3 : W.heap.size ≤ w3.heap.size := by omega
  have hB2 : Below W.heap.size W V2 := by rw [hV2]; exact hb4'.setCell lW3 _
  have zV2 : V2.heap.size = w4.heap.size := by rw [hV2]; simp
  have EB2 : BoxT V2 w3.heap.size mir G loss (.slice B n d) := by rw [hV2]; exact ⟨by simp [go_sem, e0], by simp [go_sem, e1], by simp [go_sem, e2], by simp [go_sem, e3]⟩
  have o2 : V2.ownsRow W.heap.size 33 2 (.slice B n d) n (flat bdC bs) := by rw [hV2]; exact own_set oV OFB.out _ _
  have OV2 := Lib.hid o2
  rw [← hV2]
  clear hV2 c0 c1 c2 c3 e0 e1 e2 e3 o2 oV hb4'
  go_loopw [29] (fun i wr => ∃ k : Nat, k ≤ n ∧ i = .int .i64 k ∧ wr.ownsRow W.heap.size 33 2 (.slice B n d) n (flat bdC (mixL gl bs k)) ∧ BoxT wr w3.heap.size mir G loss (.slice B n d) ∧ V2.heap.size ≤ wr.heap.size ∧ Below W.heap.size W wr) (fun i _ => n - (intOf i).toNat)
  case atStart => exact ⟨0, Nat.zero_le _, rfl, by rw [mixL_zero]; exact OV2.out, EB2, Nat.le_refl _, hB2⟩
  case round =>
    clear EB2 OV2 hB2
    obtain ⟨k, hk, rfl, hob, EB, hsz, hw⟩ := hrel
    have OB := Lib.hid hob
    clear hob
    obtain ⟨c0, c1, c2, c3⟩ := CW.out.keep hw
    have s0 := keepC SW.out.1 hw
    have s1 := keepC SW.out.2 hw
    obtain ⟨d0, d1, d2, d3⟩ := DW.out.keep hw
    have lW2 : w.heap.size + 1 + 1 < W.heap.size := by omega
    have fr : ∀ j, wr.frozen? ⟨w.heap.size + 1 + 1, j, none⟩ = false := fun j => (hw.frozen (p := ⟨w.heap.size + 1 + 1, j, none⟩) lW2).trans (DF.out j)
    have hWr : Below w.heap.size w wr := hW.trans (hw.mono hW.size)
    have hle : w.heap.size ≤ wr.heap.size := hWr.size
    have lr0 : w.heap.size < wr.heap.size := by omega
    have lr1 : w.heap.size + 1 < wr.heap.size := by omega
    have lr2 : w.heap.size + 1 + 1 < wr.heap.size := by omega
    have lr3 := EB.lt
    by_cases hlt : k < n
    · obtain ⟨bb, off, a, v, rfl, hbl, hx, x0, x1⟩ := (ha.step hWr).bd hlt
      obtain ⟨gB, rfl, _, _⟩ := owns_slice_at OB.out (by omega)
      have hki : (k : Int) < (n : Int) := by omega
      have hk0 : (0 : Int) ≤ (k : Int) := by omega
      have hy : gl[k]? = some (actP t f a.1 a.2, actP t f v.1 v.2) := by rw [GL.out]; unfold turnL; rw [List.getElem?_map, hx]; rfl
      have SB := Lib.hid (mixL_set hgll hy)
      have LB := Lib.hid (mixL_len (k := k) hgll (by have := HL.out; omega))
      obtain ⟨P1, hP1⟩ : ∃ P, P = actP t f a.1 a.2 := ⟨_, rfl⟩
      obtain ⟨P2, hP2⟩ : ∃ P, P = actP t f v.1 v.2 := ⟨_, rfl⟩
      have k1 := fun w => actSym_any t f a.1 a.2 w
      have k2 := fun w => actSym_any t f v.1 v.2 w
      rw [← hP1, ← hP2] at SB
      rw [← hP1] at k1
      rw [← hP2] at k2
      simp only [cxV] at k1 k2
      have K1 := Lib.hid k1
      have K2 := Lib.hid k2
      have lBW : W.heap.size ≤ gB := (OB.out.lt gB rfl).1
      have lBr : gB < wr.heap.size := (OB.out.lt gB rfl).2
      have hne3 : ¬ w3.heap.size = gB := fun e => OFB.out (by rw [e]; rfl)
      have hne0 : ¬ w.heap.size = gB := by omega
      have hne1 : ¬ w.heap.size + 1 = gB := by omega
      have hner : ¬ wr.heap.size = gB := by omega
      clear hy hx k1 k2 hP1 hP2 d0 d1 d2 d3 fr
      obtain ⟨e0, e1, e2, e3⟩ := id EB
      go_wp2_with fail
      obtain ⟨X, hXe⟩ : ∃ X, X = wr.alloc (Obj.cells #[.complex .f32 a.1 a.2, .complex .f32 v.1 v.2] 33) := ⟨_, rfl⟩
      have hX : Below wr.heap.size wr X := by rw [hXe]; (repeat (first | with_reducible assumption | exact Below.refl _ _ | (refine Below.setCell ?_ (by first | exact Nat.le_refl _ | (simp; done) | omega | (simp; omega)) _) | (refine below_drewN ?_ _) | (refine Below.drew ?_) | (refine Below.alloc ?_ (by first | exact Nat.le_refl _ | (simp; done) | omega | (simp; omega)) _) | (refine then_ ?_ (by with_reducible assumption)) | assumption | (refine then_ ?_ (by assumption))))
      have b0 : X.cell? ⟨wr.heap.size, 0, none⟩ = some (.complex .f32 a.1 a.2) := by rw [hXe]; simp [go_sem]
      have b1 : X.cell? ⟨wr.heap.size, 1, none⟩ = some (.complex .f32 v.1 v.2) := by rw [hXe]; simp [go_sem]
      have lbX : wr.heap.size < X.heap.size := by rw [hXe]; simp
      rw [← hXe]
      have EX := EB.keep hX
      obtain ⟨y0, y1, y2, y3⟩ := id EX
      have OX := Lib.hid (owns_below OB.out hX)
      have u0 := keepC s0 hX
      have u1 := keepC s1 hX
      have v0 := keepC c0 hX
      have v1 := keepC c1 hX
      have v2 := keepC c2 hX
      have v3 := keepC c3 hX
      have lx3 := EX.lt
      have lx0 : w.heap.size < X.heap.size := by omega
      have lx1 : w.heap.size + 1 < X.heap.size := by omega
      clear hXe c0 c1 c2 c3 e0 e1 e2 e3 s0 s1 x0 x1
      go_region_held3 (fun w' => ∀ b o, b < X.heap.size → ¬ b = gB → w'.cell? ⟨b, o, none⟩ = X.cell? ⟨b, o, none⟩) (first | exact (fun _ _ _ _ => rfl) | assumption | exact setKeep (setKeep (by assumption) _ _) _ _) (first
        | (go_at_call 11; (with_reducible refine (K1.out _).mono ?_); rintro e w5 ⟨rfl, hb5⟩; have hB5 : Below X.heap.size X w5 := (by (repeat (first | with_reducible assumption | exact Below.refl _ _ | (refine Below.setCell ?_ (by first | exact Nat.le_refl _ | (simp; done) | omega | (simp; omega)) _) | (refine below_drewN ?_ _) | (refine Below.drew ?_) | (refine Below.alloc ?_ (by first | exact Nat.le_refl _ | (simp; done) | omega | (simp; omega)) _) | (refine then_ ?_ (by with_reducible assumption)) | assumption | (refine then_ ?_ (by assumption))))); have hS5 : ∀ b o, b < X.heap.size → ¬ b = gB → w5.cell? ⟨b, o, none⟩ = X.cell? ⟨b, o, none⟩ := (fun b o h _ => hB5.cell (p := ⟨b, o, none⟩) h); have O5 := Lib.hid (owns_below OX.out hB5); obtain ⟨q0, hq0⟩ := owns_cell O5.out (k * 2) (by omega); obtain ⟨q1, hq1⟩ := owns_cell O5.out (k * 2 + 1) (by omega); have hf5 := fun j => O5.out.frozenAt j)
        | (go_at_call 11; (with_reducible refine (K2.out _).mono ?_); rintro e w6 ⟨rfl, hb6⟩; have hB6 : Below X.heap.size X w6 := (by (repeat (first | with_reducible assumption | exact Below.refl _ _ | (refine Below.setCell ?_ (by first | exact Nat.le_refl _ | (simp; done) | omega | (simp; omega)) _) | (refine below_drewN ?_ _) | (refine Below.drew ?_) | (refine Below.alloc ?_ (by first | exact Nat.le_refl _ | (simp; done) | omega | (simp; omega)) _) | (refine then_ ?_ (by with_reducible assumption)) | assumption | (refine then_ ?_ (by assumption))))); have hS6 : ∀ b o, b < X.heap.size → ¬ b = gB → w6.cell? ⟨b, o, none⟩ = X.cell? ⟨b, o, none⟩ := (fun b o h _ => hB6.cell (p := ⟨b, o, none⟩) h); have O6 := Lib.hid (owns_below OX.out hB6); obtain ⟨r0, hr0⟩ := owns_cell O6.out (k * 2) (by omega); obtain ⟨r1, hr1⟩ := owns_cell O6.out (k * 2 + 1) (by omega); have hf6 := fun j => O6.out.frozenAt j))
      all_goals first
        | (go_wp2; go_roundw; (case rel => (have hSS := setKeep (setKeep hS6 (k * 2) (.complex .f32 P1.1 P1.2)) (k * 2 + 1) (.complex .f32 P2.1 P2.2); have zz := hB6.size; refine ⟨k + 1, by omega, by go_num, ?_, ⟨(hSS w3.heap.size 0 lx3 hne3).trans y0, (hSS w3.heap.size 1 lx3 hne3).trans y1, (hSS w3.heap.size 2 lx3 hne3).trans y2, (hSS w3.heap.size 3 lx3 hne3).trans y3⟩, by simp; omega, ((then_ (then_ hw hX) hB6).setCell lBW _).setCell lBW _⟩; rw [← SB.out, flat_setBd (by rw [LB.out]; have := HL.out; omega)]; exact ((O6.out.stored (k * 2) _).1.stored (k * 2 + 1) _).1)); (case measure => (simp [intOf]; omega)))
        | (go_wp2; go_roundw; (case rel => (have hSS := setKeep (setKeep hS5 (k * 2) (.complex .f32 P1.1 P1.2)) (k * 2 + 1) (.complex .f32 P2.1 P2.2); have zz := hB5.size; refine ⟨k + 1, by omega, by go_num, ?_, ⟨(hSS w3.heap.size 0 lx3 hne3).trans y0, (hSS w3.heap.size 1 lx3 hne3).trans y1, (hSS w3.heap.size 2 lx3 hne3).trans y2, (hSS w3.heap.size 3 lx3 hne3).trans y3⟩, by simp; omega, ((then_ (then_ hw hX) hB5).setCell lBW _).setCell lBW _⟩; rw [← SB.out, flat_setBd (by rw [LB.out]; have := HL.out; omega)]; exact ((O5.out.stored (k * 2) _).1.stored (k * 2 + 1) _).1)); (case measure => (simp [intOf]; omega)))
    · obtain rfl : k = n := by omega
      have eB : mixL gl bs k = gl := by rw [← HL.out]; exact mixL_all hgll
      rw [eB] at OB
      have ht8 := isTumble_any mir G loss B k d gl
      clear hlt eB
      obtain ⟨e0, e1, e2, e3⟩ := id EB
      go_wp2_with fail
      refine (isTumble_any mir G loss B k d gl _ hn (Rd.of_own bdC_len (by rw [hgll]; exact HL.out) OB.out)).mono ?_
      rw [HO.out]
      rintro e w7 ⟨rfl, hb7⟩
      have f0 := keepF d0 (fr 0) hb7
      have f1 := keepF d1 (fr 1) hb7
      have f2 := keepF d2 (fr 2) hb7
      have f3 := keepF d3 (fr 3) hb7
      have d0 := keepC d0 hb7
      have d1 := keepC d1 hb7
      have d2 := keepC d2 hb7
      have d3 := keepC d3 hb7
      obtain ⟨e0, e1, e2, e3⟩ := EB.keep hb7
      have O7 := Lib.hid (owns_below OB.out hb7)
      have hW7 := then_ hWr hb7
      have lr3 := (EB.keep hb7).lt
      have lr2 : w.heap.size + 1 + 1 < w7.heap.size := World.block_lt_of_cell? _ _ d0
      have l1 : w.heap.size ≤ w.heap.size + 1 + 1 := by omega
      clear hb7 OB EB fr s0 s1 c0 c1 c2 c3
      go_wp2
      refine bodyPost_ret (v := .tuple #[tumV mir G loss (.slice B k d), .bool true]) (by simp [results, Try.results19, go_sem, tumV, d0, d1, d2, d3]) rfl ⟨⟨B, d, rfl, ?_⟩, (((hW7.setCell l1 _).setCell l1 _).setCell l1 _).setCell l1 _⟩
      exact owns_mono (ownsRow_setCell_below (ownsRow_setCell_below (ownsRow_setCell_below (ownsRow_setCell_below O7.out lW2 _) lW2 _) lW2 _) lW2 _) hW.size
end Go.Proofs.Ytdjbpbolliphkaa
