
/- RunTumble: whether the specification's is possible. -/
import Derived.Test.YtdjbpbolliphkaaSpS
import Derived.Test.YtdjbpbolliphkaaDrawH
namespace Go.Proofs.Ytdjbpbolliphkaa
open Go.RowKit
attribute [local go_sem] run_store_float run_store_complex

def RunSPost (mir : Int) (gr : Pt) (loss n : Nat) (ok : Bool) (e : Ending) : Prop := ∃ B d, e = .returned (.tuple #[tumV mir gr loss (.slice B n d), .bool ok])
theorem runS_no {mir : Int} {gr : Pt} {loss : Nat} {bs : List Bd} {k N : Nat} (h : runUp mir gr loss bs k = none) (hk : k ≤ N) : runS mir gr loss bs N = false := by
  obtain ⟨j, rfl⟩ : ∃ j, N = k + j := ⟨N - k, by omega⟩
  unfold runS
  rw [runUp_none h j]; rfl
theorem rd_new {w : World} {o : Obj} {A : Option Addr} {n : Nat} {xs : List Bd} (h : Rd bdC 2 w w.heap.size A n xs) : Rd bdC 2 (w.alloc o) (w.alloc o).heap.size A n xs := h.step (Below.alloc (Below.refl _ _) (Nat.le_refl _) _)

set_option maxRecDepth 100000 in
set_option maxHeartbeats 8000000 in
theorem specRun_any (mir : Int) (gr : Pt) (loss : Nat) (A : Option Addr) (n c : Nat) (bs : List Bd) (N : Nat) (w : World) (hn : n ≤ 8) (hN : N ≤ 64) (ht : tumB mir gr loss bs = true) (ha : Rd bdC 2 w w.heap.size A n bs) :
    Calls Try.prog 20 #[.agg #[.int .i64 mir, .complex .f32 gr.1 gr.2, .float .f32 loss, .slice A n c], .int .i64 N] w fun e w' => RunSPost mir gr loss n (runS mir gr loss bs N) e ∧ Below w.heap.size w w' := by
  have HT := Lib.hid ht
  have hin : inB (N : Int) 0 64 = true := by unfold inB; simp; omega
  go_enter Try.func20, Try.ntmps20
  go_wp2_with fail
  obtain ⟨W, hWe⟩ : ∃ W, W = (w.alloc (Obj.cells #[.int .i64 mir, .complex .f32 gr.1 gr.2, .float .f32 loss, .slice A n c] 37)).alloc (Obj.cells #[.int .i64 0, .complex .f32 0 0, .float .f32 0, .slice none 0 0] 37) := ⟨_, rfl⟩
  have hW : Below w.heap.size w W := by rw [hWe]; (repeat (first | with_reducible assumption | exact Below.refl _ _ | (refine Below.setCell ?_ (by first | exact Nat.le_refl _ | (simp; done) | omega | (simp; omega)) _) | (refine below_drewN ?_ _) | (refine Below.drew ?_) | (refine Below.alloc ?_ (by first | exact Nat.le_refl _ | (simp; done) | omega | (simp; omega)) _) | (refine then_ ?_ (by with_reducible assumption)) | assumption | (refine then_ ?_ (by assumption))))
  have zW : W.heap.size = w.heap.size + 2 := by rw [hWe]; simp
  have CB : BoxT W w.heap.size mir gr loss (.slice A n c) := by rw [hWe]; exact ⟨by simp [go_sem], by simp [go_sem], by simp [go_sem], by simp [go_sem]⟩
  have DB : BoxT W (w.heap.size + 1) 0 (0, 0) 0 (.slice none 0 0) := by rw [hWe]; exact ⟨by simp [go_sem], by simp [go_sem], by simp [go_sem], by simp [go_sem]⟩
  have df : ∀ j, W.frozen? ⟨w.heap.size + 1, j, none⟩ = false := by intro j; rw [hWe]; simp [go_sem]
  have DF := Lib.hid df
  have CW := Lib.hid CB
  have DW := Lib.hid DB
  rw [← hWe]
  clear hWe df DB
  have ZW := Lib.hid zW
  have lW0 : w.heap.size < W.heap.size := by omega
  have lW1 : w.heap.size + 1 < W.heap.size := by omega
  have l1 : w.heap.size ≤ w.heap.size + 1 := by omega
  clear zW
  refine (specCopy_any mir gr loss A n c bs _ hn (ha.step hW)).mono ?_
  rintro e w2 ⟨B, d, rfl, ho2, hb2⟩
  have r2 := Rd.of_own bdC_len ha.1 ho2
  obtain ⟨c0, c1, c2, c3⟩ := CB.keep hb2
  have z2 := hb2.size
  have lb0 : w.heap.size < w2.heap.size := by omega
  clear CB ho2
  go_wp2_with fail
  obtain ⟨V, hVe⟩ : ∃ V, V = w2.alloc (Obj.cells #[.int .i64 mir, .complex .f32 gr.1 gr.2, .float .f32 loss, .slice B n d] 37) := ⟨_, rfl⟩
  have hV : Below w2.heap.size w2 V := by rw [hVe]; (repeat (first | with_reducible assumption | exact Below.refl _ _ | (refine Below.setCell ?_ (by first | exact Nat.le_refl _ | (simp; done) | omega | (simp; omega)) _) | (refine below_drewN ?_ _) | (refine Below.drew ?_) | (refine Below.alloc ?_ (by first | exact Nat.le_refl _ | (simp; done) | omega | (simp; omega)) _) | (refine then_ ?_ (by with_reducible assumption)) | assumption | (refine then_ ?_ (by assumption))))
  have EB : BoxT V w2.heap.size mir gr loss (.slice B n d) := by rw [hVe]; exact boxT_new _ _ _ _ _ _
  have ef : ∀ j, V.frozen? ⟨w2.heap.size, j, none⟩ = false := by intro j; rw [hVe]; simp [go_sem]
  have rV := r2.step hV
  rw [← hVe]
  have hbV := then_ hb2 hV
  clear hVe c0 c1 c2 c3 hV hb2 r2
  refine (specIsTumble_yes mir gr loss A n c bs _ ht hn (ha.step (then_ hW hbV))).mono ?_
  rintro e w3 ⟨rfl, hb3⟩
  have ef := frB ef hb3 EB.lt
  have EB := EB.keep hb3
  have rV := rV.step hb3
  have hb3' := Lib.hid (then_ hbV hb3)
  obtain ⟨c0, c1, c2, c3⟩ := CW.out.keep hb3'.out
  have z3 := hb3'.out.size
  have lb0 : w.heap.size < w3.heap.size := by omega
  have lE3 := EB.lt
  clear hbV hb3 ht
  go_wp2_with fail
  (with_reducible refine (l1In_any _ _ _ _).mono ?_)
  rw [hin]
  rintro e w' ⟨rfl, rfl⟩
  go_wp2_with fail
  go_loopw [7] (fun i wr => ∃ (k : Nat) (xs : List Bd) (cs : List Int) (O : Option Addr) (D : Nat), k ≤ N ∧ i = .int .i64 k ∧ runUp mir gr loss bs k = some (xs, cs) ∧ Rd bdC 2 wr wr.heap.size O n xs ∧ BoxT wr w2.heap.size mir gr loss (.slice O n D) ∧ (∀ j, wr.frozen? ⟨w2.heap.size, j, none⟩ = false) ∧ w3.heap.size ≤ wr.heap.size ∧ Below W.heap.size W wr) (fun i _ => N - (intOf i).toNat)
  case atStart => exact ⟨0, bs, _, B, d, Nat.zero_le _, rfl, rfl, rV, EB, ef, Nat.le_refl _, hb3'.out⟩
  case round =>
    clear EB rV hb3' c0 c1 c2 c3 ef
    obtain ⟨k, xs, cs, O, D, hk, rfl, hru, rX, EB, ef, hsz, hw⟩ := hrel
    have RU := Lib.hid hru
    have TX := Lib.hid (runUp_tum HT.out hru)
    obtain ⟨d0, d1, d2, d3⟩ := DW.out.keep hw
    have fr : ∀ j, wr.frozen? ⟨w.heap.size + 1, j, none⟩ = false := fun j => (hw.frozen (p := ⟨w.heap.size + 1, j, none⟩) lW1).trans (DF.out j)
    have hWr : Below w.heap.size w wr := then_ hW hw
    have hle : w.heap.size ≤ wr.heap.size := hWr.size
    have lr0 : w.heap.size < wr.heap.size := by omega
    have lr1 : w.heap.size + 1 < wr.heap.size := by omega
    have lr3 := EB.lt
    clear hru
    by_cases hlt : k < N
    · have hki : (k : Int) < (N : Int) := by omega
      obtain ⟨e0, e1, e2, e3⟩ := id EB
      clear d0 d1 d2 d3 fr
      go_wp2_with fail
      refine (specStep_any mir gr loss O n D xs _ hn TX.out rX).mono ?_
      rintro e w5 ⟨⟨hy, hno⟩, hb5⟩
      have z5 := hb5.size
      have hw5 := then_ hw hb5
      have ef := frB ef hb5 EB.lt
      have EB5 := EB.keep hb5
      obtain ⟨c0, c1, c2, c3⟩ := CW.out.keep hw5
      have lr3 := EB5.lt
      have lr0 : w.heap.size < w5.heap.size := by omega
      have lr1 : w.heap.size + 1 < w5.heap.size := by omega
      clear e0 e1 e2 e3 EB
      cases hgo : allGo gr xs
      · obtain ⟨B5, d5, rfl, ho5⟩ := hno hgo
        have NO := Lib.hid (show runS mir gr loss bs N = false from runS_no (runUp_no RU.out hgo) (by omega))
        simp only [tumV]
        clear hy hno hgo ho5
        go_wp2_with fail
        refine (specCopy_any mir gr loss A n c bs _ hn (ha.step ?_)).mono ?_
        · exact (then_ hW hw5).alloc (then_ hW hw5).size _
        rintro e w9 ⟨B9, d9, rfl, ho9, hb9⟩
        obtain ⟨Y, hY⟩ : ∃ Y, Y = w5.alloc (Obj.cells #[.int .i64 mir, .complex .f32 gr.1 gr.2, .float .f32 loss, .slice B5 n d5] 37) := ⟨_, rfl⟩
        have hY5 : Below w5.heap.size w5 Y := by rw [hY]; (repeat (first | with_reducible assumption | exact Below.refl _ _ | (refine Below.setCell ?_ (by first | exact Nat.le_refl _ | (simp; done) | omega | (simp; omega)) _) | (refine below_drewN ?_ _) | (refine Below.drew ?_) | (refine Below.alloc ?_ (by first | exact Nat.le_refl _ | (simp; done) | omega | (simp; omega)) _) | (refine then_ ?_ (by with_reducible assumption)) | assumption | (refine then_ ?_ (by assumption))))
        rw [← hY] at hb9 ho9
        have h59 := then_ (then_ hw5 hY5) hb9
        obtain ⟨d0, d1, d2, d3⟩ := DW.out.keep h59
        have fr : ∀ j, w9.frozen? ⟨w.heap.size + 1, j, none⟩ = false := fun j => (h59.frozen (p := ⟨w.heap.size + 1, j, none⟩) lW1).trans (DF.out j)
        have f0 := fr 0
        have f1 := fr 1
        have f2 := fr 2
        have f3 := fr 3
        have hW9 := then_ hW h59
        have lr9 : w.heap.size + 1 < w9.heap.size := by have := h59.size; omega
        clear hY hY5 hb9 ho9 h59 fr
        go_wp2
        refine bodyPost_ret (v := .tuple #[tumV mir gr loss (.slice B9 n d9), .bool false]) (by simp [results, Try.results20, go_sem, tumV, d0, d1, d2, d3]) rfl ⟨⟨B9, d9, by rw [NO.out]⟩, (((hW9.setCell l1 _).setCell l1 _).setCell l1 _).setCell l1 _⟩
      · obtain ⟨B5, d5, rfl, ho5⟩ := hy hgo
        have RY := Lib.hid (runUp_yes RU.out hgo)
        have OF5 := Lib.hid (off_lt ho5 (show w2.heap.size < wr.heap.size by omega))
        have O5 := Lib.hid ho5
        have hlen : (goL mir gr loss xs).length = n := by unfold goL; rw [List.length_map]; exact rX.1
        obtain ⟨e0, e1, e2, e3⟩ := id EB5
        have f0 := ef 0
        have f1 := ef 1
        have f2 := ef 2
        have f3 := ef 3
        simp only [tumV]
        clear hy hno hgo ho5 c0 c1 c2 c3
        go_wp2
        go_roundw
        case rel =>
          have E6 : BoxT ((((w5.setCell ⟨w2.heap.size, 0, none⟩ (.int .i64 mir)).setCell ⟨w2.heap.size, 1, none⟩ (.complex .f32 gr.1 gr.2)).setCell ⟨w2.heap.size, 2, none⟩ (.float .f32 loss)).setCell ⟨w2.heap.size, 3, none⟩ (.slice B5 n d5)) w2.heap.size mir gr loss (.slice B5 n d5) :=
            ⟨by simp [go_sem, e0], by simp [go_sem, e1], by simp [go_sem, e2], by simp [go_sem, e3]⟩
          have hA := fun (X : World) (o : Obj) => Below.alloc (Below.refl X.heap.size X) (Nat.le_refl _) o
          refine ⟨k + 1, _, _, B5, d5, by omega, by go_num, RY.out, ?_, E6.keep (hA _ _), ?_, by simp; omega, ((((hw5.setCell z2 _).setCell z2 _).setCell z2 _).setCell z2 _).alloc (by simp; omega) _⟩
          · exact Rd.of_own bdC_len hlen ((own_set (own_set (own_set (own_set O5.out OF5.out _ _) OF5.out _ _) OF5.out _ _) OF5.out _ _).alloc _)
          · exact frB (frS (frS (frS (frS ef _ _) _ _) _ _) _ _) (hA _ _) (by simp; omega)
        case measure => simp [intOf]; omega
    · obtain rfl : k = N := by omega
      have YES := Lib.hid (show runS mir gr loss bs k = true by unfold runS; rw [RU.out]; rfl)
      obtain ⟨e0, e1, e2, e3⟩ := id EB
      have f0 := fr 0
      have f1 := fr 1
      have f2 := fr 2
      have f3 := fr 3
      go_wp2
      refine bodyPost_ret (v := .tuple #[tumV mir gr loss (.slice O n D), .bool true]) (by simp [results, Try.results20, go_sem, tumV, d0, d1, d2, d3]) rfl ⟨⟨O, D, by rw [YES.out]⟩, (((hWr.setCell l1 _).setCell l1 _).setCell l1 _).setCell l1 _⟩
end Go.Proofs.Ytdjbpbolliphkaa
