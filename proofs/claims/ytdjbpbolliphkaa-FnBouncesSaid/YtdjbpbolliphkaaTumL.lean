
/- Plain laws on tumbles: symmetries on keys; a tick keeps a tumble valid; ticks in parts. -/
import Derived.Test.YtdjbpbolliphkaaRun
import Derived.Test.YtdjbpbolliphkaaFltN
import Derived.Test.YtdjbpbolliphkaaGeoI
namespace Go.Proofs.Ytdjbpbolliphkaa
open Go.RowKit

def keyP (p : Pt) : Int × Int := (key p.1, key p.2)
def finP (p : Pt) : Prop := finB p.1 = true ∧ finB p.2 = true
theorem rotB_key {p : Pt} (h : finP p) : keyP (rotB p) = rI (keyP p) ∧ finP (rotB p) := by
  obtain ⟨h1, h2⟩ := h
  obtain ⟨a, b⟩ := neg_key h2
  exact ⟨by unfold rotB keyP rI; rw [a], b, h1⟩
theorem rotN_key {p : Pt} (h : finP p) : ∀ n, keyP (rotN n p) = rIN n (keyP p) ∧ finP (rotN n p)
  | 0 => ⟨rfl, h⟩
  | n + 1 => by
    obtain ⟨a, b⟩ := rotN_key h n
    obtain ⟨c, d⟩ := rotB_key b
    exact ⟨by show keyP (rotB (rotN n p)) = rI (rIN n (keyP p)); rw [c, a], d⟩
theorem flip_key {f : Bool} {y : Nat} (h : finB y = true) : key (flipB f y) = (if f then -key y else key y) ∧ finB (flipB f y) = true := by
  cases f
  · exact ⟨rfl, h⟩
  · exact neg_key h
theorem actI_key {t : Int} {f : Bool} {re im : Nat} (h : finP (re, im)) : keyP (actI t f re im) = aI t f (keyP (re, im)) ∧ finP (actI t f re im) := by
  obtain ⟨h1, h2⟩ := h
  obtain ⟨a, b⟩ := flip_key (f := f) h2
  obtain ⟨c, d1, d2⟩ := rotN_key (p := (re, flipB f im)) ⟨h1, b⟩ t.toNat
  obtain ⟨e1, e2⟩ := clean_key d1
  obtain ⟨g1, g2⟩ := clean_key d2
  refine ⟨?_, e2, g2⟩
  show (key _, key _) = _
  unfold actI
  dsimp only
  rw [e1, g1]
  show keyP (rotN t.toNat (re, flipB f im)) = _
  rw [c]
  unfold aI keyP
  dsimp only
  rw [a]
theorem point_fin {p : Pt} (h : pointB p.1 p.2 = true) : finP p := by
  unfold pointB at h
  rw [Bool.and_eq_true] at h
  exact ⟨reach_fin h.1, reach_fin h.2⟩
theorem point_key {p : Pt} (h : finP p) : pointB p.1 p.2 = true ↔ Sm 1166016512 (keyP p) := by
  unfold pointB
  rw [Bool.and_eq_true, reach_key h.1, reach_key h.2, decide_eq_true_eq, decide_eq_true_eq]
  unfold Sm keyP
  dsimp only
  omega
theorem actP_point (t : Int) (f : Bool) (re im : Nat) : pointB (actP t f re im).1 (actP t f re im).2 = true := by
  unfold actP
  split
  · rename_i h
    rw [Bool.and_eq_true] at h
    have hf := point_fin (p := (re, im)) h.2
    obtain ⟨a, b⟩ := actI_key (t := t) (f := f) hf
    rw [point_key b, a]
    exact aI_sm ((point_key hf).1 h.2) _ _
  · decide +kernel

theorem foldP_wedge {kind : Int} (hk : inB kind 0 3 = true) (z : Pt) : wedgeB kind (foldP kind z).1 = true := by
  have h0 : wedgeB kind (0, 0) = true := by
    obtain ⟨k1, k2⟩ := inB_true hk
    have hc : kind = 0 ∨ kind = 1 ∨ kind = 2 ∨ kind = 3 := by omega
    rcases hc with rfl | rfl | rfl | rfl <;> decide +kernel
  unfold foldP
  split
  · unfold foldG
    split
    · rename_i g hg
      have := List.find?_some hg
      exact this
    · exact h0
  · exact h0
theorem slow_point {loss : Nat} {s : Pt} (hl : partB loss = true) (hs : pointB s.1 s.2 = true) : pointB (slow loss s).1 (slow loss s).2 = true := by
  obtain ⟨f1, f2⟩ := point_fin hs
  obtain ⟨a1, a2⟩ := mul_key f1 (one_sub hl)
  obtain ⟨b1, b2⟩ := mul_key f2 (one_sub hl)
  unfold pointB at hs ⊢
  rw [Bool.and_eq_true, reach_key f1, reach_key f2, decide_eq_true_eq, decide_eq_true_eq] at hs
  unfold slow
  dsimp only
  rw [Bool.and_eq_true, reach_key a1, reach_key b1, decide_eq_true_eq, decide_eq_true_eq]
  omega
theorem goBd_ok {mir : Int} {gr : Pt} {loss : Nat} {b : Bd} (hm : inB mir 0 3 = true) (hl : partB loss = true) : okBd mir (goBd mir gr loss b).1 = true := by
  unfold goBd
  dsimp only
  split
  · unfold okBd
    rw [Bool.and_eq_true]
    exact ⟨foldP_wedge hm _, actP_point _ _ _ _⟩
  · unfold okBd
    rw [Bool.and_eq_true]
    exact ⟨foldP_wedge hm _, slow_point hl (actP_point _ _ _ _)⟩
theorem tumB_parts {mir : Int} {gr : Pt} {loss : Nat} {bs : List Bd} : tumB mir gr loss bs = true ↔ inB mir 0 3 = true ∧ pointB gr.1 gr.2 = true ∧ partB loss = true ∧ bs.length ≤ 8 ∧ bs.all (okBd mir) = true := by
  unfold tumB
  simp only [Bool.and_eq_true, decide_eq_true_eq]
theorem goL_tum {mir : Int} {gr : Pt} {loss : Nat} {bs : List Bd} (h : tumB mir gr loss bs = true) : tumB mir gr loss (goL mir gr loss bs) = true := by
  rw [tumB_parts] at h ⊢
  obtain ⟨h1, h2, h3, h4, h5⟩ := h
  refine ⟨h1, h2, h3, by simpa [goL] using h4, ?_⟩
  rw [List.all_eq_true]
  intro x hx
  unfold goL at hx
  obtain ⟨b, _, rfl⟩ := List.mem_map.1 hx
  exact goBd_ok h1 h3
theorem runUp_tum {mir : Int} {gr : Pt} {loss : Nat} {bs : List Bd} (h : tumB mir gr loss bs = true) : ∀ {k : Nat} {b : List Bd} {c : List Int}, runUp mir gr loss bs k = some (b, c) → tumB mir gr loss b = true
  | 0, b, c, e => by
    unfold runUp at e
    injection e with e
    injection e with e1 e2
    rw [← e1]; exact h
  | k + 1, b, c, e => by
    cases hk : runUp mir gr loss bs k with
    | none => unfold runUp at e; rw [hk] at e; cases e
    | some r =>
      obtain ⟨b', c'⟩ := r
      have ih := runUp_tum h hk
      unfold runUp at e
      rw [hk] at e
      simp only at e
      split at e
      · injection e with e
        injection e with e1 e2
        rw [← e1]; exact goL_tum ih
      · cases e
theorem zip_zeros {c : List Int} {n : Nat} (h : c.length = n) : List.zipWith (· + ·) c (List.replicate n (0 : Int)) = c := by
  apply List.ext_getElem
  · simp [h]
  · intro i h1 h2
    simp
theorem zip_addF {c c' : List Int} {f : List Bool} : List.zipWith addF (List.zipWith (· + ·) c c') f = List.zipWith (· + ·) c (List.zipWith addF c' f) := by
  apply List.ext_getElem
  · simp [Nat.min_assoc]
  · intro i h1 h2
    simp only [List.getElem_zipWith]
    unfold addF
    split <;> omega
/-- ticks in two parts -/
theorem runUp_add {mir : Int} {gr : Pt} {loss : Nat} {bs b : List Bd} {c : List Int} {j : Nat} (h : runUp mir gr loss bs j = some (b, c)) : ∀ k, runUp mir gr loss bs (j + k) = match runUp mir gr loss b k with
    | some (b', c') => some (b', List.zipWith (· + ·) c c')
    | none => none
  | 0 => by
    have hl := runUp_len h
    have e : runUp mir gr loss b 0 = some (b, List.replicate b.length 0) := rfl
    show runUp mir gr loss bs j = _
    rw [h, e]
    dsimp only
    rw [zip_zeros (by omega)]
  | k + 1 => by
    have ih := runUp_add h k
    cases hk : runUp mir gr loss b k with
    | none =>
      rw [hk] at ih
      have e1 : runUp mir gr loss bs (j + (k + 1)) = none := runUp_none ih 1
      have e2 : runUp mir gr loss b (k + 1) = none := runUp_none hk 1
      rw [e1, e2]
    | some r =>
      obtain ⟨b', c'⟩ := r
      rw [hk] at ih
      cases hg : allGo gr b'
      · have e1 : runUp mir gr loss bs (j + (k + 1)) = none := runUp_no ih hg
        have e2 : runUp mir gr loss b (k + 1) = none := runUp_no hk hg
        rw [e1, e2]
      · have e1 : runUp mir gr loss bs (j + (k + 1)) = _ := runUp_yes ih hg
        have e2 : runUp mir gr loss b (k + 1) = _ := runUp_yes hk hg
        rw [e1, e2]
        dsimp only
        rw [zip_addF]
end Go.Proofs.Ytdjbpbolliphkaa
