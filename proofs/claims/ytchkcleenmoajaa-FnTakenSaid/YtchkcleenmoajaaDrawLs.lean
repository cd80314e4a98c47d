
/- l3List: pieces of glass. -/
import Derived.Test.YtchkcleenmoajaaDrawSh
import Derived.Test.YtchkcleenmoajaaShard
import Derived.Deep.AppendLies
import Derived.Maps.AppendAt
namespace Go.Proofs.Ytchkcleenmoajaa
open Go.RowKit
attribute [local go_sem] run_store_float run_store_complex

theorem infoSh : (Try.prog.info? 36).map (fun i => (i.zero, i.size, i.bytes)) = some (some (.agg #[.complex .f32 0 0, .complex .f32 0 0, .complex .f32 0 0, .float .f32 0, .float .f32 0, .float .f32 0, .float .f32 0]), 7, 40) := by kernel_rfl
set_option maxRecDepth 100000 in
set_option maxHeartbeats 8000000 in
theorem l3ListC (g : Nat) (A : Option Addr) (m c : Nat) (bs : List Int) (w : World) (hc : CurB w g A m c bs) :
    Calls Try.prog 20 #[.pointer (some ⟨g, 0, none⟩), .int .i64 6] w fun e w' => ∃ (ls : List Sh) (B : Option Addr) (C : Nat), ls.length ≤ 6 ∧ ls.all okSh = true ∧ e = .returned (.slice B ls.length C) ∧ w'.ownsRow w.heap.size 36 7 (.slice B ls.length C) ls.length (flat shC ls) ∧ CurB w' g A m c bs ∧ w.grownBy w' (some g) := by
  obtain ⟨i0, hi, hz0, hz1, hz2⟩ := info_parts infoSh
  have hgw := hc.2.2.1
  go_enter Try.func20, Try.ntmps20
  go_wp2_with fail
  obtain ⟨W, hWe⟩ : ∃ W, W = w.alloc (Obj.cells #[] 36) := ⟨_, rfl⟩
  have hW : Below w.heap.size w W := by rw [hWe]; (repeat (first | with_reducible assumption | exact Below.refl _ _ | (refine Below.setCell ?_ (by first | exact Nat.le_refl _ | (simp; done) | omega | (simp; omega)) _) | (refine below_drewN ?_ _) | (refine Below.drew ?_) | (refine Below.alloc ?_ (by first | exact Nat.le_refl _ | (simp; done) | omega | (simp; omega)) _) | (refine then_ ?_ (by with_reducible assumption)) | assumption | (refine then_ ?_ (by assumption))))
  have o0 := World.ownsRow_lit (base := w.heap.size) (size := 7) (e := 36) w #[] 0 (Nat.le_refl _) (by simp [maxLen]) rfl
  rw [← hWe] at o0
  have hc0 := hc.step hW
  have G0 := grown_of_below hW (some g)
  rw [← hWe]
  clear hWe hc
  (with_reducible refine (l1BelowC g A m c bs 7 _ (by omega) (by omega) hc0).mono ?_)
  rintro e w1 ⟨N, hN, rfl, hc1, hg1⟩
  have G1 := grown_trans G0 hg1
  have o1 := Lib.hid (owns_grown o0 hg1 (fun k hk => (by injection hk with hk; rw [← hk]; exact off_lt o0 (by omega))))
  clear hc0 hg1 G0 o0 hW
  go_wp2_with fail
  go_loopw [5, 6] (fun s i wr => ∃ (xs : List Sh) (O : Option Addr) (C j : Nat), xs.length + j = N ∧ s = .slice O xs.length C ∧ i = .int .i64 j ∧ xs.all okSh = true ∧ wr.ownsRow w.heap.size 36 7 (.slice O xs.length C) xs.length (flat shC xs) ∧ CurB wr g A m c bs ∧ w.grownBy wr (some g)) (fun _ i _ => (intOf i).toNat)
  case atStart => exact ⟨[], _, _, N, Nat.zero_add _, rfl, rfl, rfl, o1.out, hc1, G1⟩
  case round =>
    clear hc1 G1 o1
    obtain ⟨xs, O, C, j, hxj, rfl, rfl, hxa, hown, hcr, hG⟩ := hrel
    have OW := Lib.hid hown
    have XA := Lib.hid hxa
    obtain ⟨k, hk⟩ : ∃ k, k = xs.length := ⟨_, rfl⟩
    have HK := Lib.hid hk
    rw [← hk] at OW ⊢
    have k4 : k + j = N := by rw [hk]; exact hxj
    clear hown hxa hxj hk
    by_cases hlt : 0 < j
    · have hji : (0 : Int) < (j : Int) := by omega
      have hgr : g < wr.heap.size := hcr.2.2.1
      go_wp2_with fail
      (with_reducible refine (l3DrawC g A m c bs _ hcr).mono ?_)
      rintro e w2 ⟨a, b, d, r, q, l, kk, hok, rfl, hc2, hg2⟩
      have OK := Lib.hid hok
      have OW2 := Lib.hid (owns_grown OW.out hg2 (fun k hk => (by injection hk with hk; rw [← hk]; exact off_lt OW.out (by omega))))
      have G2 := grown_trans hG hg2
      have z2 := G2.size
      have hj64 : IntKind.i64.wrap ((j : Int) - 1) = (j : Int) - 1 := by rw [IntKind.wrap_i64]; omega
      clear hok hcr hg2 hG OW
      go_wp2_with (at_builtin; refine wpList_append_own_at _ rfl _ _ 24 rfl w.heap.size 36 i0 (.agg #[.complex .f32 0 0, .complex .f32 0 0, .complex .f32 0 0, .float .f32 0, .float .f32 0, .float .f32 0, .float .f32 0]) 7 40 Try.underlying24 hi hz0 hz1 hz2 rfl (by decide) _ _ _ rfl (OW2.out.alloc _) ⟨w2.heap.size, 0, none⟩ 1 1 [.complex .f32 a.1 a.2, .complex .f32 b.1 b.2, .complex .f32 d.1 d.2, .float .f32 r, .float .f32 q, .float .f32 l, .float .f32 kk] rfl rfl ?c1 ?c2 ?c3 ?c4 ?c5 ?_; (case c1 => exact World.news_of_block (cs := #[.complex .f32 a.1 a.2, .complex .f32 b.1 b.2, .complex .f32 d.1 d.2, .float .f32 r, .float .f32 q, .float .f32 l, .float .f32 kk]) (t := 36) (fr := (0, 0)) (heap_alloc_new w2 _)); (case c2 => simp [Value.oneCell']); (case c3 => unfold maxLen; omega); (case c4 => omega); (case c5 => simp; omega); intro v3 w3 hown3 hg3 hne3 hat3; have hA := (show Below w2.heap.size w2 (w2.alloc (Obj.cells #[.complex .f32 a.1 a.2, .complex .f32 b.1 b.2, .complex .f32 d.1 d.2, .float .f32 r, .float .f32 q, .float .f32 l, .float .f32 kk] 36)) by (repeat (first | with_reducible assumption | exact Below.refl _ _ | (refine Below.setCell ?_ (by first | exact Nat.le_refl _ | (simp; done) | omega | (simp; omega)) _) | (refine below_drewN ?_ _) | (refine Below.drew ?_) | (refine Below.alloc ?_ (by first | exact Nat.le_refl _ | (simp; done) | omega | (simp; omega)) _) | (refine then_ ?_ (by with_reducible assumption)) | assumption | (refine then_ ?_ (by assumption))))); have OA := Lib.hid (OW2.out.alloc (Obj.cells #[.complex .f32 a.1 a.2, .complex .f32 b.1 b.2, .complex .f32 d.1 d.2, .float .f32 r, .float .f32 q, .float .f32 l, .float .f32 kk] 36)); have hc3 := CurB.off (hc2.step hA) hg3 (owns_gt OA.out (by omega)); have G3 := grown_mix (grown_trans G2 (grown_of_below hA (some g))) hg3 (owns_ge OA.out (by omega)); have OW3 := Lib.hid hown3; clear hown3 hg3 hne3 hat3)
      obtain ⟨B3, d3, rfl⟩ := owns_slice OW3.out
      have eL : (xs ++ [(a, b, d, (r, q, l), kk)]).length = k + 1 := by simp only [List.length_append, List.length_singleton]; rw [← HK.out]
      have eA : (xs ++ [(a, b, d, (r, q, l), kk)]).all okSh = true := by
        rw [List.all_append, XA.out]
        simp only [List.all_cons, List.all_nil, Bool.and_true, Bool.true_and]
        exact OK.out
      have EL := Lib.hid eL
      have EA := Lib.hid eA
      clear eL eA
      go_wp2
      go_roundw
      case rel =>
        have eJ : ((j - 1 : Nat) : Int) = (j : Int) - 1 := by omega
        refine ⟨xs ++ [(a, b, d, (r, q, l), kk)], B3, d3, j - 1, by rw [EL.out]; omega, by rw [EL.out], by rw [eJ], EA.out, ?_, hc3, G3⟩
        rw [EL.out, flat_append]
        exact OW3.out
      case measure => simp [intOf]; omega
    · obtain rfl : j = 0 := by omega
      go_wp2
      go_ret
      exact ⟨xs, O, C, by rw [← HK.out]; omega, XA.out, by rw [← HK.out]; rfl, by rw [← HK.out]; exact OW.out, hcr, hG⟩
end Go.Proofs.Ytchkcleenmoajaa
