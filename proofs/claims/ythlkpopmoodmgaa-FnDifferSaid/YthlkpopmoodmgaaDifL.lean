
/- DifferOf in plain Lean: from both sides; nothing differs exactly where the pictures are the same. -/
import Derived.Test.YthlkpopmoodmgaaFltS
import Derived.Test.YthlkpopmoodmgaaDiffer
import Derived.Test.YthlkpopmoodmgaaPicL
namespace Go.Proofs.Ythlkpopmoodmgaa

theorem farP_comm {x y : Nat} (hx : finB x = true) (hy : finB y = true) : farP x y = farP y x := by
  unfold farP
  rw [ltB_fin hx hy, ltB_fin hy hx]
  rcases Int.lt_trichotomy (key x) (key y) with h | h | h
  · rw [decide_eq_true h, decide_eq_false (show ¬ key y < key x by omega)]
    simp
  · rw [decide_eq_false (show ¬ key x < key y by omega), decide_eq_false (show ¬ key y < key x by omega)]
    simp only [Bool.false_eq_true, if_false]
    rw [subB_eq hx hy h, subB_eq hy hx h.symm]
  · rw [decide_eq_false (show ¬ key x < key y by omega), decide_eq_true h]
    simp
theorem farP_pos {x y : Nat} (hx : partB x = true) (hy : partB y = true) (h : key x ≠ key y) : 0 < farP x y := by
  unfold farP
  rw [ltB_fin (part_fin hx) (part_fin hy)]
  by_cases hl : key x < key y
  · rw [decide_eq_true hl, if_pos rfl]; exact subB_pos hy hx hl
  · rw [decide_eq_false hl]
    simp only [Bool.false_eq_true, if_false]
    exact subB_pos hx hy (by omega)
theorem farB_comm {a b : Col} (ha : colB a = true) (hb : colB b = true) : farB a b = farB b a := by
  have f1 := col_fin ha
  have f2 := col_fin hb
  unfold farB
  rw [ha, hb, farP_comm f1.1 f2.1, farP_comm f1.2.1 f2.2.1, farP_comm f1.2.2 f2.2.2]
theorem farB_pos {a b : Col} (ha : colB a = true) (hb : colB b = true) (h : colEqB a b = false) : 0 < farB a b := by
  have f1 := col_fin ha
  have f2 := col_fin hb
  rw [colEq_key ha hb, decide_eq_false_iff_not] at h
  have hp := ha
  have hq := hb
  unfold colB at hp hq
  simp only [Bool.and_eq_true] at hp hq
  unfold farB
  rw [ha, hb]
  simp only [Bool.and_self, if_true]
  have n1 := farP_nn f1.1 f2.1
  have n2 := farP_nn f1.2.1 f2.2.1
  have n3 := farP_nn f1.2.2 f2.2.2
  rw [maxB_max (maxB_nn n1 n2) n3, maxB_max n1 n2]
  by_cases h1 : key a.1 = key b.1
  · by_cases h2 : key a.2.1 = key b.2.1
    · have h3 : key a.2.2 ≠ key b.2.2 := fun e => h (by unfold keyC; rw [h1, h2, e])
      have := farP_pos hp.2.2 hq.2.2 h3
      omega
    · have := farP_pos hp.2.1 hq.2.1 h2
      omega
  · have := farP_pos hp.1 hq.1 h1
    omega
theorem colEq_comm {a b : Col} (ha : colB a = true) (hb : colB b = true) : colEqB a b = colEqB b a := by
  rw [colEq_key ha hb, colEq_key hb ha]
  exact decide_eq_decide.2 ⟨fun h => h.symm, fun h => h.symm⟩
theorem dStep_comm {s : Int × Nat} {a b : Col} (ha : colB a = true) (hb : colB b = true) : dStep s (a, b) = dStep s (b, a) := by
  unfold dStep
  rw [colEq_comm ha hb, farB_comm ha hb]
theorem dS_comm {xs ys : List Col} (hx : xs.all colB = true) (hy : ys.all colB = true) (hl : xs.length = ys.length) : ∀ k, k ≤ xs.length → dS xs ys k = dS ys xs k := by
  intro k
  induction k with
  | zero => intro _; rfl
  | succ k ih =>
    intro hk
    have h1 : xs[k]? = some xs[k] := List.getElem?_eq_getElem (by omega)
    have h2 : ys[k]? = some (ys[k]'(by omega)) := List.getElem?_eq_getElem (by omega)
    rw [dS_succ h1 h2, dS_succ h2 h1, ih (by omega)]
    exact dStep_comm (List.all_eq_true.1 hx _ (List.mem_of_getElem? h1)) (List.all_eq_true.1 hy _ (List.mem_of_getElem? h2))
/-- nothing counted, nothing far, all the same so far -/
theorem dS_zero {xs ys : List Col} (hx : xs.all colB = true) (hy : ys.all colB = true) (hl : xs.length = ys.length) : ∀ k, k ≤ xs.length →
    ((dS xs ys k).1 = 0 ↔ (dS xs ys k).2 = 0) ∧ ((dS xs ys k).1 = 0 ↔ ∀ (i : Nat) x y, i < k → xs[i]? = some x → ys[i]? = some y → colEqB x y = true) := by
  intro k
  induction k with
  | zero => intro _; exact ⟨by simp [dS], by simp [dS]⟩
  | succ k ih =>
    intro hk
    obtain ⟨i1, i2⟩ := ih (by omega)
    have h1 : xs[k]? = some xs[k] := List.getElem?_eq_getElem (by omega)
    have h2 : ys[k]? = some (ys[k]'(by omega)) := List.getElem?_eq_getElem (by omega)
    have ca := List.all_eq_true.1 hx _ (List.mem_of_getElem? h1)
    have cb := List.all_eq_true.1 hy _ (List.mem_of_getElem? h2)
    have bd := dS_bd xs ys k
    have nn := dS_nn xs ys k
    rw [dS_succ h1 h2]
    cases hq : colEqB xs[k] (ys[k]'(by omega))
    · have hf := farB_pos ca cb hq
      have hfn := farB_nn xs[k] (ys[k]'(by omega))
      have e : dStep (dS xs ys k) (xs[k], ys[k]'(by omega)) = ((dS xs ys k).1 + 1, maxB (dS xs ys k).2 (farB xs[k] (ys[k]'(by omega)))) := by
        unfold dStep; rw [hq]; rfl
      rw [e, maxB_max nn hfn]
      refine ⟨⟨fun h => by dsimp only at h; omega, fun h => by dsimp only at h; omega⟩, ⟨fun h => by dsimp only at h; omega, fun h => ?_⟩⟩
      have := h k _ _ (by omega) h1 h2
      rw [hq] at this; cases this
    · have e : dStep (dS xs ys k) (xs[k], ys[k]'(by omega)) = dS xs ys k := by unfold dStep; rw [hq]; rfl
      rw [e]
      refine ⟨i1, i2.trans ⟨fun h i x y hi e1 e2 => ?_, fun h i x y hi e1 e2 => h i x y (by omega) e1 e2⟩⟩
      by_cases hik : i = k
      · subst hik
        rw [h1] at e1
        rw [h2] at e2
        injection e1 with e1
        injection e2 with e2
        rw [← e1, ← e2]; exact hq
      · exact h i x y (by omega) e1 e2
theorem differ_facts {q : Nat} {xs ys : List Col} (hp : Pic q xs) (hq : Pic q ys) : ∃ (n : Int) (f : Nat), differ ((q : Int) + 1) xs ((q : Int) + 1) ys = (n, f) ∧ differ ((q : Int) + 1) ys ((q : Int) + 1) xs = (n, f) ∧ f < 2139095040 ∧
    ((n == 0) = sameP ((q : Int) + 1) xs ((q : Int) + 1) ys) ∧ ((n == 0) = (f == 0)) := by
  have hl : xs.length = ys.length := by rw [hp.2.1, hq.2.1]
  have e1 : differ ((q : Int) + 1) xs ((q : Int) + 1) ys = dS xs ys xs.length := by unfold differ; rw [pic_ok hp, pic_ok hq]; simp
  have e2 : differ ((q : Int) + 1) ys ((q : Int) + 1) xs = dS xs ys xs.length := by
    unfold differ; rw [pic_ok hp, pic_ok hq]; simp
    rw [← hl]; exact (dS_comm hp.2.2 hq.2.2 hl _ (Nat.le_refl _)).symm
  obtain ⟨z1, z2⟩ := dS_zero hp.2.2 hq.2.2 hl xs.length (Nat.le_refl _)
  have hs : sameP ((q : Int) + 1) xs ((q : Int) + 1) ys = true ↔ ∀ (i : Nat) x y, i < xs.length → xs[i]? = some x → ys[i]? = some y → colEqB x y = true := by
    unfold sameP
    rw [beq_self_eq_true, Bool.true_and]
    constructor
    · intro h i x y hi h1 h2
      cases hc : colEqB x y
      · rw [sameCells_no h1 h2 hc] at h; cases h
      · rfl
    · intro h
      exact sameCells_yes hl fun i x y h1 h2 => h i x y (List.getElem?_eq_some_iff.1 h1).1 h1 h2
  refine ⟨(dS xs ys xs.length).1, (dS xs ys xs.length).2, e1, e2, dS_nn _ _ _, ?_, ?_⟩
  · rw [Bool.eq_iff_iff, beq_iff_eq]
    exact z2.trans hs.symm
  · rw [Bool.eq_iff_iff, beq_iff_eq, beq_iff_eq]
    exact z1
theorem ord_ff {f : Nat} (h : f < 2139095040) : FloatKind.f32.format.order f f = some .eq := by
  have hf := fin_nn h
  have := ord_fin hf hf
  have e : compare (key f) (key f) = .eq := Int.compare_eq_eq.2 rfl
  rw [e] at this
  exact this
theorem ord_f0 {f : Nat} (h : f < 2139095040) : (FloatKind.f32.format.order f 0 == some .eq) = (f == 0) := by
  have e : eqB f 0 = zeroB f := eqB_zero f
  have e2 : zeroB f = (f == 0) := by
    unfold zeroB
    rw [Nat.mod_eq_of_lt (by omega)]
    rfl
  rw [e2] at e
  exact e
end Go.Proofs.Ythlkpopmoodmgaa
