
/- Speeds without gravity; the energy is not less than nothing: plain. -/
import Derived.Test.YtdjbpbolliphkaaFoldW
namespace Go.Proofs.Ytdjbpbolliphkaa
open Go.RowKit Ieee

theorem slow_span {loss : Nat} {s : Pt} (hl : partB loss = true) (h : finP s) : spanZ (keyP (slow loss s)) ≤ spanZ (keyP s) ∧ finP (slow loss s) := by
  obtain ⟨a1, a2⟩ := mul_key h.1 (one_sub hl)
  obtain ⟨b1, b2⟩ := mul_key h.2 (one_sub hl)
  refine ⟨?_, a1, b1⟩
  unfold slow spanZ keyP
  dsimp only
  omega
/-- a bead's speed after a tick without gravity -/
theorem goBd_span {mir : Int} (hk : inB mir 0 3 = true) {loss : Nat} {b : Bd} (hl : partB loss = true) (hb : finP b.2) (h : goOk (0, 0) b = true) :
    spanZ (keyP (goBd mir (0, 0) loss b).1.2) ≤ spanZ (keyP b.2) ∧ (loss = 0 → spanZ (keyP (goBd mir (0, 0) loss b).1.2) = spanZ (keyP b.2)) := by
  obtain ⟨g, hg, _, _, _, k4⟩ := goBd_keys hk (loss := loss) h
  obtain ⟨p1, p2⟩ := plus_zero hb
  unfold goOk at h
  rw [Bool.and_eq_true] at h
  obtain ⟨q1, q2⟩ := actP_key (f := g.2) (symsL_in g hg) h.1
  have e : spanZ (keyP (actP g.1 g.2 (plusP b.2 (0, 0)).1 (plusP b.2 (0, 0)).2)) = spanZ (keyP b.2) := by rw [q1, spanZ_aI (symsL_in g hg), p1]
  rcases k4 with k4 | k4
  · rw [k4, e]; exact ⟨Int.le_refl _, fun _ => rfl⟩
  · rw [k4]
    refine ⟨by rw [← e]; exact (slow_span hl q2).1, fun h0 => ?_⟩
    subst h0
    rw [(slow_zero q2).1, e]
theorem lost_run {mir : Int} {loss : Nat} {bs : List Bd} (ht : tumB mir (0, 0) loss bs = true) : ∀ (k : Nat) {b : List Bd} {c : List Int}, runUp mir (0, 0) loss bs k = some (b, c) →
    ∀ (i : Nat) x y, b[i]? = some x → bs[i]? = some y → spanZ (keyP x.2) ≤ spanZ (keyP y.2) ∧ (loss = 0 → spanZ (keyP x.2) = spanZ (keyP y.2))
  | 0, b, c, h, i, x, y, hx, hy => by
    unfold runUp at h
    injection h with h
    injection h with h1 h2
    rw [← h1, hy] at hx
    injection hx with hx
    rw [hx]; exact ⟨Int.le_refl _, fun _ => rfl⟩
  | k + 1, b, c, h, i, x, y, hx, hy => by
    cases hk : runUp mir (0, 0) loss bs k with
    | none => rw [runUp_none hk 1] at h; cases h
    | some r =>
      obtain ⟨b1, c1⟩ := r
      have hT := tumB_parts.1 (runUp_tum ht hk)
      cases ho : allGo (0, 0) b1
      · rw [runUp_no hk ho] at h; cases h
      · rw [runUp_yes hk ho] at h
        injection h with h
        injection h with h1 h2
        rw [← h1] at hx
        unfold goL at hx
        rw [List.getElem?_map] at hx
        obtain ⟨z, hz, rfl⟩ := Option.map_eq_some_iff.1 hx
        obtain ⟨i1, i2⟩ := lost_run ht k hk i z y hz hy
        have fz := (ok_fin (List.all_eq_true.1 hT.2.2.2.2 z (List.mem_of_getElem? hz))).2
        obtain ⟨j1, j2⟩ := goBd_span hT.1 hT.2.2.1 fz (allGo_at ho hz)
        exact ⟨Int.le_trans j1 i1, fun h0 => (j2 h0).trans (i2 h0)⟩
theorem tum_still {mir : Int} {gr : Pt} {loss : Nat} {bs : List Bd} (h : tumB mir gr loss bs = true) : tumB mir (0, 0) loss bs = true ∧ tumB mir (0, 0) 0 bs = true := by
  rw [tumB_parts] at h
  obtain ⟨h1, h2, h3, h4, h5⟩ := h
  have p0 : pointB ((0, 0) : Pt).1 ((0, 0) : Pt).2 = true := by decide +kernel
  have l0 : partB 0 = true := by decide +kernel
  exact ⟨tumB_parts.2 ⟨h1, p0, h3, h4, h5⟩, tumB_parts.2 ⟨h1, p0, l0, h4, h5⟩⟩
/-- what FnLost asks of speeds -/
theorem lost {mir : Int} {loss : Nat} {bs : List Bd} (ht : tumB mir (0, 0) loss bs = true) (n : Nat) (hs : runS mir (0, 0) loss bs n = true) (i : Nat) (x y : Bd)
    (hx : (runB mir (0, 0) loss bs n)[i]? = some x) (hy : bs[i]? = some y) : finP x.2 ∧ finP y.2 ∧ gtB (spanB x.2) (spanB y.2) = false ∧ (loss = 0 → eqB (spanB x.2) (spanB y.2) = true) := by
  have fx := (ok_fin (List.all_eq_true.1 (tumB_parts.1 (runB_tum ht n)).2.2.2.2 x (List.mem_of_getElem? hx))).2
  have fy := (ok_fin (List.all_eq_true.1 (tumB_parts.1 ht).2.2.2.2 y (List.mem_of_getElem? hy))).2
  obtain ⟨a1, a2⟩ := span_key fx
  obtain ⟨b1, b2⟩ := span_key fy
  unfold runS at hs
  cases hr : runUp mir (0, 0) loss bs n with
  | none => rw [hr] at hs; cases hs
  | some r =>
    obtain ⟨b, c⟩ := r
    unfold runB at hx
    rw [hr] at hx
    obtain ⟨c1, c2⟩ := lost_run ht n hr i x y hx hy
    refine ⟨fx, fy, ?_, fun h0 => ?_⟩
    · rw [gtB_fin a2 b2, a1, b1]; simp; omega
    · rw [eqB_fin a2 b2, a1, b1, c2 h0]; simp

/-! ### energy -/
def small (x : Nat) : Prop := x < 2139095040
theorem small_fin {x : Nat} (h : small x) : finB x = true ∧ 0 ≤ key x := by
  unfold small at h
  refine ⟨by unfold finB; rw [Nat.mod_eq_of_lt (by omega)]; simpa using h, ?_⟩
  rw [key_nn (by omega)]; omega
theorem square_small {x : Nat} (h : finB x = true) : small (mulB x x) := by
  obtain ⟨m, u, ex, _, _, _⟩ := read_rung h
  have e : mulB x x = match single.mul x x with | some r => cleanB r | none => 0 := rfl
  rw [e]
  unfold Format.mul
  rw [ex]
  simp only [Datum.product, Option.map_some, Format.write, Bool.xor_self]
  exact cleanB_nn (nearest_nn _ _)
theorem bring_nn {k : Int} (h : 0 ≤ k) (e : Nat) : 0 ≤ bring k e := by
  unfold bring
  rw [if_neg (by omega)]
  exact Int.natCast_nonneg _
theorem sum_small {x y : Nat} (hx : small x) (hy : small y) : small (addB x y) := by
  obtain ⟨a1, a2⟩ := small_fin hx
  obtain ⟨b1, b2⟩ := small_fin hy
  rw [add_keys a1 b1]
  unfold addK
  split
  · show (0 : Nat) < 2139095040; omega
  · have h1 := bring_nn a2 (lowU (key x) (key y))
    have h2 := bring_nn b2 (lowU (key x) (key y))
    have hd : decide (allS (key x) (key y) < 0) = false := by unfold allS; simp; omega
    rw [hd, word_false]
    exact cleanB_nn (nearest_nn _ _)
theorem small_ge {x : Nat} (h : small x) : geB x 0 = true := by
  obtain ⟨h1, h2⟩ := small_fin h
  rw [ge_le h1 f0, leB_fin f0 h1, k0]
  simpa using h2
end Go.Proofs.Ytdjbpbolliphkaa
