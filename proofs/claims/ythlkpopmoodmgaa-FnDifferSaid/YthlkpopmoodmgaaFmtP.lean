
/- FormatPicture, both versions. -/
import Derived.Test.YthlkpopmoodmgaaFmtC
import Derived.Test.YthlkpopmoodmgaaPicP
namespace Go.Proofs.Ythlkpopmoodmgaa
open Go.RowKit
attribute [local go_sem] run_store_float run_store_complex

def bsC (l : List UInt8) : List Value := [.string ⟨l.toArray⟩]
theorem bsC_len (l : List UInt8) : (bsC l).length = 1 := rfl
theorem infoStr : (Try.prog.info? 9).map (fun i => (i.zero, i.size, i.bytes)) = some (some (.string ⟨#[]⟩), 1, 16) := by kernel_rfl
/-- the text of i cells of a row that begins at cell b -/
def rowUp (xs : List Col) (b : Nat) : Nat → List UInt8
  | 0 => []
  | i + 1 => (if 0 < i then rowUp xs b i ++ [32] else rowUp xs b i) ++ colS (xs.getD (b + i) (0, 0, 0))
theorem rowUp_len (xs : List Col) (b : Nat) : ∀ i, (rowUp xs b i).length = 4 * i - 1
  | 0 => rfl
  | 1 => rfl
  | i + 2 => by
    have h := rowUp_len xs b (i + 1)
    have h3 : ∀ c : Col, (colS c).length = 3 := fun _ => rfl
    unfold rowUp
    rw [if_pos (by omega), List.length_append, List.length_append, h, h3]
    simp; omega
def fmtUp (S : Nat) (xs : List Col) (k : Nat) : List (List UInt8) := (List.range k).map (fun j => rowUp xs (j * S) S)
theorem fmtUp_succ (S : Nat) (xs : List Col) (k : Nat) : fmtUp S xs (k + 1) = fmtUp S xs k ++ [rowUp xs (k * S) S] := by
  unfold fmtUp; rw [List.range_succ, List.map_append]; rfl
theorem fmtUp_len (S : Nat) (xs : List Col) (k : Nat) : (fmtUp S xs k).length = k := by simp [fmtUp]
def fmtL (s : Int) (xs : List Col) : List (List UInt8) := if pictB s xs then fmtUp s.toNat xs s.toNat else []

set_option maxRecDepth 100000 in
set_option maxHeartbeats 8000000 in
theorem formatPicture_any (s : Int) (A : Option Addr) (n c : Nat) (xs : List Col) (w : World) (hn : n ≤ maxLen) (ha : Rd colC 3 w w.heap.size A n xs) :
    Calls Try.prog 28 #[.agg #[.int .i64 s, .slice A n c]] w fun e w' => ∃ B d, e = .returned (.slice B (fmtL s xs).length d) ∧ w'.ownsRow w.heap.size 9 1 (.slice B (fmtL s xs).length d) (fmtL s xs).length (flat bsC (fmtL s xs)) ∧ Below w.heap.size w w' := by
  obtain ⟨i0, hi, hz0, hz1, hz2⟩ := info_parts infoStr
  cases h2 : pictB s xs
  · have R := Lib.hid (show fmtL s xs = [] by simp [fmtL, h2])
    go_enter Try.func28, Try.ntmps28
    go_wp2_with (go_at_call 17; refine (isPicture_any s A n c xs _ hn (ha.step ?_)).mono ?_; (repeat (first | with_reducible assumption | exact Below.refl _ _ | (refine Below.setCell ?_ (by first | exact Nat.le_refl _ | (simp; done) | omega | (simp; omega)) _) | (refine below_drewN ?_ _) | (refine Below.drew ?_) | (refine Below.alloc ?_ (by first | exact Nat.le_refl _ | (simp; done) | omega | (simp; omega)) _) | (refine then_ ?_ (by with_reducible assumption)) | assumption | (refine then_ ?_ (by assumption)))); rintro e w2 ⟨rfl, hb2⟩; simp only [h2])
    go_ret
    rw [R.out]
    exact ⟨none, 0, rfl, ⟨rfl, .inl ⟨rfl, rfl⟩⟩, by (repeat (first | with_reducible assumption | exact Below.refl _ _ | (refine Below.setCell ?_ (by first | exact Nat.le_refl _ | (simp; done) | omega | (simp; omega)) _) | (refine below_drewN ?_ _) | (refine Below.drew ?_) | (refine Below.alloc ?_ (by first | exact Nat.le_refl _ | (simp; done) | omega | (simp; omega)) _) | (refine then_ ?_ (by with_reducible assumption)) | assumption | (refine then_ ?_ (by assumption))))⟩
  · obtain ⟨q, rfl, hp⟩ := pic_of h2
    obtain ⟨hq8, hlen, hcol⟩ := hp
    have HC := Lib.hid hcol
    obtain ⟨S, hS⟩ : ∃ S, S = q + 1 := ⟨_, rfl⟩
    have R := Lib.hid (show fmtL ((q : Int) + 1) xs = fmtUp S xs S by
      have e : ((q : Int) + 1).toNat = S := by omega
      unfold fmtL; rw [h2, if_pos rfl, e])
    have hnS : n = S * S := by rw [← ha.1, hlen, hS]
    have hSi : (q : Int) + 1 = (S : Int) := by omega
    rw [hSi] at h2 R ⊢
    have hS8 : S ≤ 8 := by omega
    have hS1 : 1 ≤ S := by omega
    have NS := Lib.hid hnS
    have HL := Lib.hid ha.1
    clear hSi hS hcol hq8 hlen hnS
    go_enter Try.func28, Try.ntmps28
    go_wp2_with (go_at_call 17; refine (isPicture_any (S : Int) A n c xs _ hn (ha.step ?_)).mono ?_; (repeat (first | with_reducible assumption | exact Below.refl _ _ | (refine Below.setCell ?_ (by first | exact Nat.le_refl _ | (simp; done) | omega | (simp; omega)) _) | (refine below_drewN ?_ _) | (refine Below.drew ?_) | (refine Below.alloc ?_ (by first | exact Nat.le_refl _ | (simp; done) | omega | (simp; omega)) _) | (refine then_ ?_ (by with_reducible assumption)) | assumption | (refine then_ ?_ (by assumption)))); rintro e w1 ⟨rfl, hb1⟩; simp only [h2]; have kc_0 := keepC (p := ⟨w.heap.size, 0, none⟩) (v := .int .i64 (S : Int)) (by first | assumption | (simp [go_sem]; done) | (simp [go_sem, *]; done)) hb1; have kc_1 := keepC (p := ⟨w.heap.size, 1, none⟩) (v := .slice A n c) (by first | assumption | (simp [go_sem]; done) | (simp [go_sem, *]; done)) hb1; have lb_ := (show w.heap.size < _ from World.block_lt_of_cell? _ _ kc_0); have hW1 : Below w.heap.size w w1 := (by (repeat (first | with_reducible assumption | exact Below.refl _ _ | (refine Below.setCell ?_ (by first | exact Nat.le_refl _ | (simp; done) | omega | (simp; omega)) _) | (refine below_drewN ?_ _) | (refine Below.drew ?_) | (refine Below.alloc ?_ (by first | exact Nat.le_refl _ | (simp; done) | omega | (simp; omega)) _) | (refine then_ ?_ (by with_reducible assumption)) | assumption | (refine then_ ?_ (by assumption))))); have ra := ha.step hW1; clear hb1)
    obtain ⟨V, hVe⟩ : ∃ V, V = w1.alloc (Obj.cells #[] 9) := ⟨_, rfl⟩
    have hV : Below w1.heap.size w1 V := by rw [hVe]; (repeat (first | with_reducible assumption | exact Below.refl _ _ | (refine Below.setCell ?_ (by first | exact Nat.le_refl _ | (simp; done) | omega | (simp; omega)) _) | (refine below_drewN ?_ _) | (refine Below.drew ?_) | (refine Below.alloc ?_ (by first | exact Nat.le_refl _ | (simp; done) | omega | (simp; omega)) _) | (refine then_ ?_ (by with_reducible assumption)) | assumption | (refine then_ ?_ (by assumption))))
    have o0 : V.ownsRow w1.heap.size 9 1 (.slice (some ⟨w1.heap.size, 0, none⟩) 0 0) 0 [] := by
      rw [hVe]
      exact World.ownsRow_lit (base := w1.heap.size) w1 #[] 0 (Nat.le_refl _) (by simp [maxLen]) rfl
    rw [← hVe]
    clear hVe
    have O0 := Lib.hid o0
    clear o0
    have p0 := kc_0
    have p1 := kc_1
    clear kc_0 kc_1
    go_loopw [3, 13] (fun v i wr => ∃ k : Nat, k ≤ S ∧ i = .int .i64 k ∧ (∃ B d, v = .slice B k d) ∧ wr.ownsRow w1.heap.size 9 1 v k (flat bsC (fmtUp S xs k)) ∧ Below w1.heap.size w1 wr) (fun _ i _ => S - (intOf i).toNat)
    case atStart => exact ⟨0, by omega, rfl, ⟨_, _, rfl⟩, O0.out, hV⟩
    case round =>
      clear O0 hV
      obtain ⟨k, hk, rfl, ⟨B1, d1, rfl⟩, hown, hw⟩ := hrel
      have OW := Lib.hid hown
      clear hown
      by_cases hlt : k < S
      · have hki : (k : Int) < (S : Int) := by omega
        have hk0 : (0 : Int) ≤ (k : Int) := by omega
        have e0 := keepC p0 hw
        have e1 := keepC p1 hw
        obtain ⟨M, hM⟩ : ∃ M, M = k * S := ⟨_, rfl⟩
        have hMi : (k : Int) * (S : Int) = (M : Int) := by rw [hM, Int.natCast_mul]
        have hMb : M + S ≤ n := by
          rw [NS.out, hM]
          have : (k + 1) * S ≤ S * S := Nat.mul_le_mul_right _ hlt
          rw [Nat.add_mul] at this; omega
        have hn64 : n ≤ 64 := by rw [NS.out]; exact Nat.mul_le_mul hS8 hS8
        have HM := Lib.hid hM
        clear hM
        go_wp2_with fail
        have HW := Lib.hid hw
        clear hw e0 e1
        go_loopw [5, 18] (fun v i wx => ∃ j : Nat, j ≤ S ∧ i = .int .i64 j ∧ v = .string ⟨(rowUp xs M j).toArray⟩ ∧ wx.ownsRow w1.heap.size 9 1 (.slice B1 k d1) k (flat bsC (fmtUp S xs k)) ∧ Below w1.heap.size w1 wx) (fun _ i _ => S - (intOf i).toNat)
        case atStart => exact ⟨0, by omega, rfl, rfl, OW.out, HW.out⟩
        case round =>
          clear HW OW
          obtain ⟨j, hj, rfl, rfl, hown, hw⟩ := hrel
          have OW := Lib.hid hown
          clear hown
          by_cases hlj : j < S
          · have hji : (j : Int) < (S : Int) := by omega
            have hj0 : (0 : Int) ≤ (j : Int) := by omega
            have e0 := keepC p0 hw
            have e1 := keepC p1 hw
            obtain ⟨I, hI⟩ : ∃ I, I = M + j := ⟨_, rfl⟩
            have hwr : IntKind.i64.wrap ((M : Int) + (j : Int)) = (I : Int) := by rw [IntKind.wrap_i64]; omega
            obtain ⟨bb, off, r, g, l, rfl, hbl, hx, c0, c1, c2⟩ := (ra.below hw).col (show I < n by omega)
            have hxc := List.all_eq_true.1 HC.out _ (List.mem_of_getElem? hx)
            have hgd : xs.getD (M + j) (0, 0, 0) = (r, g, l) := by rw [← hI, List.getD_eq_getElem?_getD, hx]; rfl
            have hixn : (I : Int) < (n : Int) := by omega
            have hix0 : (0 : Int) ≤ (I : Int) := by omega
            obtain ⟨T, hT⟩ : ∃ T, T = rowUp xs M j := ⟨_, rfl⟩
            have hTl : T.length ≤ 100 := by rw [hT, rowUp_len]; omega
            rw [← hT]
            obtain ⟨Cl, hCl⟩ : ∃ Cl, Cl = colS (r, g, l) := ⟨_, rfl⟩
            have hCll : Cl.length ≤ 100 := by rw [hCl]; show 3 ≤ 100; omega
            have kf := fun w => formatColour_any r g l w hxc
            rw [← hCl] at kf
            have KF := Lib.hid kf
            have a1 : ∀ wx, (Op.stringOp .add ⟨T.toArray⟩ ⟨#[32]⟩).run Try.prog wx = .ok (.string ⟨(T ++ [32]).toArray⟩) wx := fun wx => strAdd (P := Try.prog) T [32] (by omega) (by decide) wx
            have a2 := fun wx => strAdd (P := Try.prog) (T ++ [32]) Cl (by simp; omega) (by omega) wx
            have a3 := fun wx => strAdd (P := Try.prog) T Cl (by omega) (by omega) wx
            have E1 := Lib.hid (show 0 < j → rowUp xs M (j + 1) = T ++ [32] ++ Cl by intro h; unfold rowUp; rw [if_pos h, hgd, ← hT, ← hCl])
            have E2 := Lib.hid (show ¬ 0 < j → rowUp xs M (j + 1) = T ++ Cl by intro h; unfold rowUp; rw [if_neg h, hgd, ← hT, ← hCl])
            clear hx hT hCl kf hgd hxc hI
            by_cases hj1 : (0 : Int) < (j : Int)
            · clear a3
              go_wp2_with (go_at_call 71; refine (KF.out _).mono ?_; rintro e w5 ⟨rfl, hb5⟩)
              go_roundw
              case rel => exact ⟨j + 1, by omega, by go_num, by rw [E1.out (by omega)]; simp, owns_below OW.out hb5, then_ hw hb5⟩
              case measure => simp [intOf]; omega
            · clear a1 a2
              go_wp2_with (go_at_call 71; refine (KF.out _).mono ?_; rintro e w5 ⟨rfl, hb5⟩)
              go_roundw
              case rel => exact ⟨j + 1, by omega, by go_num, by rw [E2.out (by omega)], owns_below OW.out hb5, then_ hw hb5⟩
              case measure => simp [intOf]; omega
          · obtain rfl : j = S := by omega
            have ST := Lib.hid (fmtUp_succ j xs k)
            obtain ⟨T, hT⟩ : ∃ T, T = rowUp xs M j := ⟨_, rfl⟩
            have TT := Lib.hid hT
            rw [← hT]
            clear hT
            go_wp2_with (at_builtin; refine wpList_append_own_at _ rfl _ _ 44 rfl w1.heap.size 9 i0 (.string default) 1 16 Try.underlying44 hi hz0 hz1 hz2 rfl (by decide) _ _ _ rfl (OW.out.alloc _) ⟨wr.heap.size, 0, none⟩ 1 1 [.string ⟨T.toArray⟩] rfl rfl ?c13 ?c23 ?c33 ?c43 ?c53 ?_; (case c13 => exact World.news_of_block (cs := #[.string ⟨T.toArray⟩]) (t := 9) (fr := (0, 0)) (heap_alloc_new wr _)); (case c23 => simp [Value.oneCell']); (case c33 => unfold maxLen; omega); (case c43 => omega); (case c53 => (have := Below.size hw; simp only [World.size_alloc]; omega)); intro v3 w3 hown3 hg3 hne3 hat3; simp only [World.size_alloc] at hat3; have GB3 := Lib.hid hg3; have OW3 := Lib.hid hown3; have BW3 := below_append hw OW.out hg3; have NB3 := Lib.hid hat3; clear hown3 hg3 hne3 hat3)
            go_roundw
            case rel =>
              obtain ⟨A3, c3, rfl⟩ := owns_slice OW3.out
              refine ⟨k + 1, by omega, by go_num, ⟨_, _, rfl⟩, ?_, BW3⟩
              rw [ST.out, flat_append, ← HM.out, ← TT.out]
              exact OW3.out
            case measure => simp [intOf]; omega
      · obtain rfl : k = S := by omega
        go_wp2
        go_ret
        rw [R.out, fmtUp_len]
        exact ⟨B1, d1, rfl, owns_mono OW.out hW1.size, then_ hW1 hw⟩
end Go.Proofs.Ythlkpopmoodmgaa
