
/- StepTumble: the specification's. -/
import Derived.Test.YtdjbpbolliphkaaSpB
namespace Go.Proofs.Ytdjbpbolliphkaa
open Go.RowKit
attribute [local go_sem] run_store_float run_store_complex

def StepPost (mir : Int) (gr : Pt) (loss : Nat) (n : Nat) (bs : List Bd) (base : Nat) (e : Ending) (w' : World) : Prop :=
  (allGo gr bs = true → ∃ B d, e = .returned (.tuple #[tumV mir gr loss (.slice B n d), .bool true]) ∧ w'.ownsRow base 33 2 (.slice B n d) n (flat bdC (goL mir gr loss bs))) ∧
  (allGo gr bs = false → ∃ B d, e = .returned (.tuple #[tumV mir gr loss (.slice B n d), .bool false]) ∧ w'.ownsRow base 33 2 (.slice B n d) n (flat bdC bs))

set_option maxRecDepth 100000 in
set_option maxHeartbeats 8000000 in
theorem specStep_any (mir : Int) (gr : Pt) (loss : Nat) (A : Option Addr) (n c : Nat) (bs : List Bd) (w : World) (hn : n ≤ 8) (ht : tumB mir gr loss bs = true) (ha : Rd bdC 2 w w.heap.size A n bs) :
    Calls Try.prog 48 #[.agg #[.int .i64 mir, .complex .f32 gr.1 gr.2, .float .f32 loss, .slice A n c]] w fun e w' => StepPost mir gr loss n bs w.heap.size e w' ∧ Below w.heap.size w w' := by
  have HL := Lib.hid ha.1
  obtain ⟨gl, hgl⟩ : ∃ gl, gl = goL mir gr loss bs := ⟨_, rfl⟩
  have GL := Lib.hid hgl
  have hgll : gl.length = bs.length := by rw [hgl]; simp [goL]
  have hp := tumB_parts.1 ht
  have HP := Lib.hid hp
  clear hgl
  go_enter Try.func48, Try.ntmps48
  go_wp2_with fail
  obtain ⟨W, hWe⟩ : ∃ W, W = (w.alloc (Obj.cells #[.int .i64 mir, .complex .f32 gr.1 gr.2, .float .f32 loss, .slice A n c] 37)).alloc (Obj.cells #[.int .i64 0, .complex .f32 0 0, .float .f32 0, .slice none 0 0] 37) := ⟨_, rfl⟩
  have hW : Below w.heap.size w W := by rw [hWe]; (repeat (first | with_reducible assumption | exact Below.refl _ _ | (refine Below.setCell ?_ (by first | exact Nat.le_refl _ | (simp; done) | omega | (simp; omega)) _) | (refine below_drewN ?_ _) | (refine Below.drew ?_) | (refine Below.alloc ?_ (by first | exact Nat.le_refl _ | (simp; done) | omega | (simp; omega)) _) | (refine then_ ?_ (by with_reducible assumption)) | assumption | (refine then_ ?_ (by assumption))))
  have zW : W.heap.size = w.heap.size + 2 := by rw [hWe]; simp
  have CB : BoxT W w.heap.size mir gr loss (.slice A n c) := by rw [hWe]; exact ⟨by simp [go_sem], by simp [go_sem], by simp [go_sem], by simp [go_sem]⟩
  have DB : BoxT W (w.heap.size + 1) 0 (0, 0) 0 (.slice none 0 0) := by rw [hWe]; exact ⟨by simp [go_sem], by simp [go_sem], by simp [go_sem], by simp [go_sem]⟩
  have df : ∀ j, W.frozen? ⟨w.heap.size + 1, j, none⟩ = false := by intro j; rw [hWe]; simp [go_sem]
  have DF := Lib.hid df
  have CW := Lib.hid CB
  have DW := Lib.hid DB
  rw [← hWe]
  clear hWe df DB
  have ZW := Lib.hid zW
  have lW0 : w.heap.size < W.heap.size := by omega
  have lW1 : w.heap.size + 1 < W.heap.size := by omega
  have l1 : w.heap.size ≤ w.heap.size + 1 := by omega
  clear zW
  refine (specCopy_any mir gr loss A n c bs _ hn (ha.step hW)).mono ?_
  rintro e w2 ⟨B, d, rfl, ho2, hb2⟩
  obtain ⟨c0, c1, c2, c3⟩ := CB.keep hb2
  have z2 := hb2.size
  have lb0 : w.heap.size < w2.heap.size := by omega
  clear CB
  go_wp2_with fail
  obtain ⟨V, hVe⟩ : ∃ V, V = w2.alloc (Obj.cells #[.int .i64 mir, .complex .f32 gr.1 gr.2, .float .f32 loss, .slice B n d] 37) := ⟨_, rfl⟩
  have hV : Below w2.heap.size w2 V := by rw [hVe]; (repeat (first | with_reducible assumption | exact Below.refl _ _ | (refine Below.setCell ?_ (by first | exact Nat.le_refl _ | (simp; done) | omega | (simp; omega)) _) | (refine below_drewN ?_ _) | (refine Below.drew ?_) | (refine Below.alloc ?_ (by first | exact Nat.le_refl _ | (simp; done) | omega | (simp; omega)) _) | (refine then_ ?_ (by with_reducible assumption)) | assumption | (refine then_ ?_ (by assumption))))
  have EB : BoxT V w2.heap.size mir gr loss (.slice B n d) := by rw [hVe]; exact boxT_new _ _ _ _ _ _
  rw [← hVe]
  have OFB := Lib.hid (off_ge ho2 (Nat.le_refl _))
  have oV := owns_below ho2 hV
  have hbV := then_ hb2 hV
  clear hVe ho2 c0 c1 c2 c3 hV hb2
  refine (specIsTumble_yes mir gr loss A n c bs _ ht hn (ha.step (then_ hW hbV))).mono ?_
  rintro e w3 ⟨rfl, hb3⟩
  have EB := EB.keep hb3
  have oV := Lib.hid (owns_below oV hb3)
  have hb3' := Lib.hid (then_ hbV hb3)
  obtain ⟨c0, c1, c2, c3⟩ := CW.out.keep hb3'.out
  have z3 := hb3'.out.size
  have lb0 : w.heap.size < w3.heap.size := by omega
  clear hbV hb3 ht
  go_wp2_with fail
  go_loopw [18] (fun i wr => ∃ k : Nat, k ≤ n ∧ i = .int .i64 k ∧ (∀ (i : Nat) b, i < k → bs[i]? = some b → goOk gr b = true) ∧ wr.ownsRow W.heap.size 33 2 (.slice B n d) n (flat bdC (mixL gl bs k)) ∧ BoxT wr w2.heap.size mir gr loss (.slice B n d) ∧ w3.heap.size ≤ wr.heap.size ∧ Below W.heap.size W wr) (fun i _ => n - (intOf i).toNat)
  case atStart => exact ⟨0, Nat.zero_le _, rfl, fun i b h => by omega, by rw [mixL_zero]; exact oV.out, EB, Nat.le_refl _, hb3'.out⟩
  case round =>
    clear EB oV hb3' c0 c1 c2 c3
    obtain ⟨k, hk, rfl, hall, hob, EB, hsz, hw⟩ := hrel
    have OB := Lib.hid hob
    have HALL := Lib.hid hall
    clear hob hall
    obtain ⟨c0, c1, c2, c3⟩ := CW.out.keep hw
    obtain ⟨d0, d1, d2, d3⟩ := DW.out.keep hw
    have fr : ∀ j, wr.frozen? ⟨w.heap.size + 1, j, none⟩ = false := fun j => (hw.frozen (p := ⟨w.heap.size + 1, j, none⟩) lW1).trans (DF.out j)
    have hWr : Below w.heap.size w wr := then_ hW hw
    have hle : w.heap.size ≤ wr.heap.size := hWr.size
    have lr0 : w.heap.size < wr.heap.size := by omega
    have lr1 : w.heap.size + 1 < wr.heap.size := by omega
    have lr3 := EB.lt
    by_cases hlt : k < n
    · obtain ⟨bb, off, a, v, rfl, hbl, hx, x0, x1⟩ := (ha.step hWr).bd hlt
      obtain ⟨gB, rfl, _, _⟩ := owns_slice_at OB.out (by omega)
      have hki : (k : Int) < (n : Int) := by omega
      have hk0 : (0 : Int) ≤ (k : Int) := by omega
      have HX := Lib.hid hx
      have okb := ok_fin (List.all_eq_true.1 HP.out.2.2.2.2 (a, v) (List.mem_of_getElem? hx))
      have kb := fun s w => specBead_any mir gr loss s a v w HP.out.1 (point_fin HP.out.2.1) okb.1 okb.2
      have KB := Lib.hid kb
      have ra := ha.step hWr
      have hner : ¬ wr.heap.size = w2.heap.size := by omega
      clear hx kb okb
      obtain ⟨e0, e1, e2, e3⟩ := id EB
      go_wp2_with fail
      obtain ⟨X, hXe⟩ : ∃ X, X = wr.alloc (Obj.cells #[.complex .f32 a.1 a.2, .complex .f32 v.1 v.2] 33) := ⟨_, rfl⟩
      have hX : Below wr.heap.size wr X := by rw [hXe]; (repeat (first | with_reducible assumption | exact Below.refl _ _ | (refine Below.setCell ?_ (by first | exact Nat.le_refl _ | (simp; done) | omega | (simp; omega)) _) | (refine below_drewN ?_ _) | (refine Below.drew ?_) | (refine Below.alloc ?_ (by first | exact Nat.le_refl _ | (simp; done) | omega | (simp; omega)) _) | (refine then_ ?_ (by with_reducible assumption)) | assumption | (refine then_ ?_ (by assumption))))
      rw [← hXe]
      clear hXe
      (with_reducible refine (KB.out _ _).mono ?_)
      rintro e w5 ⟨⟨hy, hno⟩, hb5⟩
      have hX5 := then_ hX hb5
      have z5 := hX5.size
      have hw5 := then_ hw hX5
      have EB5 := EB.keep hX5
      obtain ⟨e0, e1, e2, e3⟩ := id EB5
      obtain ⟨c0, c1, c2, c3⟩ := CW.out.keep hw5
      have lr3 := EB5.lt
      have O5 := Lib.hid (owns_below OB.out hX5)
      clear hX hb5 x0 x1 hX5 EB
      cases hgo : goOk gr (a, v)
      · obtain rfl := hno hgo
        have NO := Lib.hid (show allGo gr bs = false from allX_no HX.out hgo)
        obtain ⟨d0, d1, d2, d3⟩ := DW.out.keep hw5
        have fr : ∀ j, w5.frozen? ⟨w.heap.size + 1, j, none⟩ = false := fun j => (hw5.frozen (p := ⟨w.heap.size + 1, j, none⟩) lW1).trans (DF.out j)
        have lr1 : w.heap.size + 1 < w5.heap.size := by omega
        have lr0 : w.heap.size < w5.heap.size := by omega
        clear hy hno hgo
        go_wp2_with fail
        refine (specCopy_any mir gr loss _ n c bs _ hn (ha.step ?_)).mono ?_
        · exact (then_ hW hw5).alloc (then_ hW hw5).size _
        rintro e w9 ⟨B9, d9, rfl, ho9, hb9⟩
        obtain ⟨Y, hY⟩ : ∃ Y, Y = w5.alloc (Obj.cells #[.complex .f32 a.1 a.2, .complex .f32 v.1 v.2] 33) := ⟨_, rfl⟩
        have hY5 : Below w5.heap.size w5 Y := by rw [hY]; (repeat (first | with_reducible assumption | exact Below.refl _ _ | (refine Below.setCell ?_ (by first | exact Nat.le_refl _ | (simp; done) | omega | (simp; omega)) _) | (refine below_drewN ?_ _) | (refine Below.drew ?_) | (refine Below.alloc ?_ (by first | exact Nat.le_refl _ | (simp; done) | omega | (simp; omega)) _) | (refine then_ ?_ (by with_reducible assumption)) | assumption | (refine then_ ?_ (by assumption))))
        rw [← hY] at hb9 ho9
        have h59 := then_ hY5 hb9
        have f0 := keepF d0 (fr 0) h59
        have f1 := keepF d1 (fr 1) h59
        have f2 := keepF d2 (fr 2) h59
        have f3 := keepF d3 (fr 3) h59
        have d0 := keepC d0 h59
        have d1 := keepC d1 h59
        have d2 := keepC d2 h59
        have d3 := keepC d3 h59
        have hW9 := then_ (then_ hW hw5) h59
        have z9 := h59.size
        have lY : w.heap.size + 1 < Y.heap.size := by have := hY5.size; omega
        have lY2 : w.heap.size ≤ Y.heap.size := by omega
        have O9 := Lib.hid ho9
        clear hY hY5 hb9 ho9 h59 fr
        go_wp2
        refine bodyPost_ret (v := .tuple #[tumV mir gr loss (.slice B9 n d9), .bool false]) (by simp [results, Try.results48, go_sem, tumV, d0, d1, d2, d3]) rfl ⟨⟨fun h => (by rw [NO.out] at h; cases h), fun _ => ⟨B9, d9, rfl, ?_⟩⟩, (((hW9.setCell l1 _).setCell l1 _).setCell l1 _).setCell l1 _⟩
        exact owns_mono (ownsRow_setCell_below (ownsRow_setCell_below (ownsRow_setCell_below (ownsRow_setCell_below O9.out lY _) lY _) lY _) lY _) lY2
      · obtain rfl := hy hgo
        obtain ⟨r, hr⟩ : ∃ r, r = (goBd mir gr loss (a, v)).1 := ⟨_, rfl⟩
        rw [← hr]
        obtain ⟨q, s⟩ := r
        have hyB : gl[k]? = some (q, s) := by rw [GL.out]; unfold goL; rw [List.getElem?_map, HX.out, hr]; rfl
        have SB := Lib.hid (mixL_set hgll hyB)
        have LB := Lib.hid (mixL_len (k := k) hgll (by have := HL.out; omega))
        have lBW : W.heap.size ≤ gB := (OB.out.lt gB rfl).1
        have lgB := (O5.out.lt gB rfl).2
        have hneE : ¬ w5.heap.size = gB := by omega
        have hneE2 : ¬ gB = w5.heap.size := by omega
        have hne2 : ¬ w2.heap.size = gB := fun e => OFB.out (by rw [e]; rfl)
        obtain ⟨u0, hu0⟩ := owns_cell O5.out (k * 2) (by omega)
        obtain ⟨u1, hu1⟩ := owns_cell O5.out (k * 2 + 1) (by omega)
        have fB0 := O5.out.frozenAt (k * 2)
        have fB1 := O5.out.frozenAt (k * 2 + 1)
        have hallk : ∀ (i : Nat) b, i < k + 1 → bs[i]? = some b → goOk gr b = true := fun i b hi hb => by
          by_cases e : i = k
          · subst e
            rw [HX.out] at hb
            injection hb with hb
            rw [← hb]; exact hgo
          · exact HALL.out i b (by omega) hb
        have HALLK := Lib.hid hallk
        dsimp only
        clear hy hno hyB hr hallk HALL hgo c0 c1 c2 c3
        go_wp2
        go_roundw
        case rel =>
          have hSS := setKeep (setKeep (W := w5) (gs := gB) (B := w5.heap.size) (fun _ _ _ _ => rfl) (k * 2) (.complex .f32 q.1 q.2)) (k * 2 + 1) (.complex .f32 s.1 s.2)
          have E6 : BoxT ((w5.setCell ⟨gB, k * 2, none⟩ (.complex .f32 q.1 q.2)).setCell ⟨gB, k * 2 + 1, none⟩ (.complex .f32 s.1 s.2)) w2.heap.size mir gr loss (.slice (some ⟨gB, 0, none⟩) n d) :=
            ⟨(hSS w2.heap.size 0 lr3 hne2).trans e0, (hSS w2.heap.size 1 lr3 hne2).trans e1, (hSS w2.heap.size 2 lr3 hne2).trans e2, (hSS w2.heap.size 3 lr3 hne2).trans e3⟩
          refine ⟨k + 1, by omega, by go_num, HALLK.out, ?_, E6.keep (Below.alloc (Below.refl _ _) (Nat.le_refl _) _), by simp; omega, ((hw5.setCell lBW _).setCell lBW _).alloc (by simp; omega) _⟩
          rw [← SB.out, flat_setBd (by rw [LB.out]; have := HL.out; omega)]
          exact ((O5.out.stored (k * 2) _).1.stored (k * 2 + 1) _).1.alloc _
        case measure => simp [intOf]; omega
    · obtain rfl : k = n := by omega
      have YES := Lib.hid (show allGo gr bs = true from allX_yes (fun i b h1 => HALL.out i b (by have := (List.getElem?_eq_some_iff.1 h1).1; have := HL.out; omega) h1))
      have eB : mixL gl bs k = gl := by rw [← HL.out]; exact mixL_all hgll
      rw [eB, GL.out] at OB
      obtain ⟨e0, e1, e2, e3⟩ := id EB
      have f0 := fr 0
      have f1 := fr 1
      have f2 := fr 2
      have f3 := fr 3
      have hWle := hW.size
      clear eB c0 c1 c2 c3
      go_wp2
      refine bodyPost_ret (v := .tuple #[tumV mir gr loss (.slice B k d), .bool true]) (by simp [results, Try.results48, go_sem, tumV, d0, d1, d2, d3]) rfl ⟨⟨fun _ => ⟨B, d, rfl, ?_⟩, fun h => by rw [YES.out] at h; cases h⟩, (((hWr.setCell l1 _).setCell l1 _).setCell l1 _).setCell l1 _⟩
      exact owns_mono (ownsRow_setCell_below (ownsRow_setCell_below (ownsRow_setCell_below (ownsRow_setCell_below OB.out lW1 _) lW1 _) lW1 _) lW1 _) hWle
end Go.Proofs.Ytdjbpbolliphkaa
