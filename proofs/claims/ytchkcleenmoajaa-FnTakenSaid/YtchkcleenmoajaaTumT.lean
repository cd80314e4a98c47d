
/- Without mirrors a turned tumble goes on as the turned one: plain, by keys. -/
import Derived.Test.YtchkcleenmoajaaTurn
namespace Go.Proofs.Ytchkcleenmoajaa
open Go.RowKit

theorem aI_sm_iff {b : Int} {p : Int × Int} {t : Int} {f : Bool} (ht : inB t 0 3 = true) : Sm b (aI t f p) ↔ Sm b p := by
  obtain ⟨x, y⟩ := p
  obtain ⟨k1, k2⟩ := inB_true ht
  have hc : t = 0 ∨ t = 1 ∨ t = 2 ∨ t = 3 := by omega
  rcases hc with rfl | rfl | rfl | rfl <;> cases f <;>
    simp only [a00, a10, a20, a30, a01, a11, a21, a31, Sm] <;> omega
/-- two beads of which one is the other turned, by keys -/
def TB (t : Int) (f : Bool) (b' b : Bd) : Prop := (keyP b'.1 = aI t f (keyP b.1) ∧ keyP b'.2 = aI t f (keyP b.2)) ∧ (finP b'.1 ∧ finP b'.2) ∧ (finP b.1 ∧ finP b.2)
def TL (t : Int) (f : Bool) (bs' bs : List Bd) : Prop := bs'.length = bs.length ∧ ∀ (i : Nat) b' b, bs'[i]? = some b' → bs[i]? = some b → TB t f b' b
theorem point_iff {p q : Pt} {t : Int} {f : Bool} (ht : inB t 0 3 = true) (hp : finP p) (hq : finP q) (h : keyP p = aI t f (keyP q)) : pointB p.1 p.2 = pointB q.1 q.2 := by
  have h1 := point_key hp
  have h2 := point_key hq
  rw [h, aI_sm_iff ht] at h1
  rw [Bool.eq_iff_iff, h1, h2]
theorem goOk_turn {t : Int} {f : Bool} {gr gr' : Pt} {b' b : Bd} (ht : inB t 0 3 = true) (hg : finP gr) (hg' : finP gr') (hk : keyP gr' = aI t f (keyP gr)) (h : TB t f b' b) :
    goOk gr' b' = goOk gr b ∧ keyP (plusP b'.2 gr') = aI t f (keyP (plusP b.2 gr)) ∧ keyP (plusP b'.1 (plusP b'.2 gr')) = aI t f (keyP (plusP b.1 (plusP b.2 gr))) := by
  obtain ⟨⟨h1, h2⟩, ⟨f1, f2⟩, f3, f4⟩ := h
  have e1 : keyP (plusP b'.2 gr') = aI t f (keyP (plusP b.2 gr)) := by rw [plus_keys f2 hg', plus_keys f4 hg, h2, hk, plusZ_aI]
  have n1 := cwP_fin (plus_cw f2 hg')
  have n2 := cwP_fin (plus_cw f4 hg)
  have e2 : keyP (plusP b'.1 (plusP b'.2 gr')) = aI t f (keyP (plusP b.1 (plusP b.2 gr))) := by rw [plus_keys f1 n1, plus_keys f3 n2, h1, e1, plusZ_aI]
  have n3 := cwP_fin (plus_cw f1 n1)
  have n4 := cwP_fin (plus_cw f3 n2)
  refine ⟨?_, e1, e2⟩
  unfold goOk
  rw [point_iff ht n1 n2 e1, point_iff ht n3 n4 e2]
/-- a bead without mirrors -/
theorem actP_same {p : Pt} (h : pointB p.1 p.2 = true) : keyP (actP 0 false p.1 p.2) = keyP p ∧ finP (actP 0 false p.1 p.2) := by
  rw [actP_yes (by decide) h]
  exact actI_key (t := 0) (f := false) (re := p.1) (im := p.2) (point_fin h)
theorem goBd_zero {gr : Pt} {loss : Nat} {b : Bd} (h : goOk gr b = true) :
    (keyP (goBd 0 gr loss b).1.1 = keyP (plusP b.1 (plusP b.2 gr)) ∧ keyP (goBd 0 gr loss b).1.2 = keyP (plusP b.2 gr)) ∧ finP (goBd 0 gr loss b).1.1 ∧ finP (goBd 0 gr loss b).1.2 := by
  unfold goOk at h
  rw [Bool.and_eq_true] at h
  obtain ⟨h1, h2⟩ := h
  have hf : firstG 0 (keyP (plusP b.1 (plusP b.2 gr))) = some (0, false) := by unfold firstG; rw [syms0]; rfl
  have e : goBd 0 gr loss b = ((actP 0 false (plusP b.1 (plusP b.2 gr)).1 (plusP b.1 (plusP b.2 gr)).2, actP 0 false (plusP b.2 gr).1 (plusP b.2 gr).2), false) := by
    unfold goBd
    rw [foldP_g h2 hf]
    rfl
  rw [e]
  obtain ⟨a1, a2⟩ := actP_same h2
  obtain ⟨b1, b2⟩ := actP_same h1
  exact ⟨⟨a1, b1⟩, a2, b2⟩
theorem allGo_at {gr : Pt} {bs : List Bd} (h : allGo gr bs = true) {i : Nat} {b : Bd} (hb : bs[i]? = some b) : goOk gr b = true := List.all_eq_true.1 h b (List.mem_of_getElem? hb)
theorem TL_at {t : Int} {f : Bool} {bs' bs : List Bd} (h : TL t f bs' bs) {i : Nat} {b : Bd} (hb : bs[i]? = some b) : ∃ b', bs'[i]? = some b' ∧ TB t f b' b := by
  have hi := (List.getElem?_eq_some_iff.1 hb).1
  have hi' : i < bs'.length := by rw [h.1]; exact hi
  exact ⟨bs'[i], List.getElem?_eq_getElem hi', h.2 i _ _ (List.getElem?_eq_getElem hi') hb⟩
theorem TL_at' {t : Int} {f : Bool} {bs' bs : List Bd} (h : TL t f bs' bs) {i : Nat} {b' : Bd} (hb : bs'[i]? = some b') : ∃ b, bs[i]? = some b ∧ TB t f b' b := by
  have hi := (List.getElem?_eq_some_iff.1 hb).1
  have hi' : i < bs.length := by rw [← h.1]; exact hi
  exact ⟨bs[i], List.getElem?_eq_getElem hi', h.2 i _ _ hb (List.getElem?_eq_getElem hi')⟩
theorem allGo_turn {t : Int} {f : Bool} {gr gr' : Pt} {bs' bs : List Bd} (ht : inB t 0 3 = true) (hg : finP gr) (hg' : finP gr') (hk : keyP gr' = aI t f (keyP gr)) (h : TL t f bs' bs) : allGo gr' bs' = allGo gr bs := by
  cases h1 : allGo gr bs
  · unfold allGo at h1
    obtain ⟨b, hb, hn⟩ := List.all_eq_false.1 h1
    obtain ⟨i, hi⟩ := List.getElem?_of_mem hb
    obtain ⟨b', hb', hr⟩ := TL_at h hi
    exact allX_no hb' (by rw [(goOk_turn ht hg hg' hk hr).1]; simpa using hn)
  · refine allX_yes (fun i b' hb' => ?_)
    obtain ⟨b, hb, hr⟩ := TL_at' h hb'
    rw [(goOk_turn ht hg hg' hk hr).1]
    exact allGo_at h1 hb
theorem goL_turn {t : Int} {f : Bool} {gr gr' : Pt} {loss : Nat} {bs' bs : List Bd} (ht : inB t 0 3 = true) (hg : finP gr) (hg' : finP gr') (hk : keyP gr' = aI t f (keyP gr)) (h : TL t f bs' bs) (ho : allGo gr bs = true) : TL t f (goL 0 gr' loss bs') (goL 0 gr loss bs) := by
  refine ⟨by simp [goL, h.1], fun i x' x hx' hx => ?_⟩
  unfold goL at hx hx'
  rw [List.getElem?_map] at hx hx'
  obtain ⟨b, hb, rfl⟩ := Option.map_eq_some_iff.1 hx
  obtain ⟨b', hb', rfl⟩ := Option.map_eq_some_iff.1 hx'
  have hr := h.2 i _ _ hb' hb
  have o := allGo_at ho hb
  obtain ⟨e, e1, e2⟩ := goOk_turn ht hg hg' hk hr
  obtain ⟨⟨x1, x2⟩, x3, x4⟩ := goBd_zero (loss := loss) o
  obtain ⟨⟨y1, y2⟩, y3, y4⟩ := goBd_zero (loss := loss) (e.trans o)
  exact ⟨⟨by rw [y1, x1, e2], by rw [y2, x2, e1]⟩, ⟨y3, y4⟩, x3, x4⟩
theorem run_turn {t : Int} {f : Bool} {gr gr' : Pt} {loss : Nat} {bs' bs : List Bd} (ht : inB t 0 3 = true) (hg : finP gr) (hg' : finP gr') (hk : keyP gr' = aI t f (keyP gr)) (h : TL t f bs' bs) :
    ∀ k, (runUp 0 gr' loss bs' k = none ∧ runUp 0 gr loss bs k = none) ∨ ∃ b' c' b c, runUp 0 gr' loss bs' k = some (b', c') ∧ runUp 0 gr loss bs k = some (b, c) ∧ TL t f b' b
  | 0 => .inr ⟨_, _, _, _, rfl, rfl, h⟩
  | k + 1 => by
    rcases run_turn ht hg hg' hk h k with ⟨h1, h2⟩ | ⟨b', c', b, c, h1, h2, h3⟩
    · exact .inl ⟨runUp_none h1 1, runUp_none h2 1⟩
    · cases ho : allGo gr b
      · exact .inl ⟨runUp_no h1 (by rw [allGo_turn ht hg hg' hk h3]; exact ho), runUp_no h2 ho⟩
      · exact .inr ⟨_, _, _, _, runUp_yes h1 (by rw [allGo_turn ht hg hg' hk h3]; exact ho), runUp_yes h2 ho, goL_turn ht hg hg' hk h3 ho⟩
theorem actP_key {t : Int} {f : Bool} {p : Pt} (ht : inB t 0 3 = true) (h : pointB p.1 p.2 = true) : keyP (actP t f p.1 p.2) = aI t f (keyP p) ∧ finP (actP t f p.1 p.2) := by
  rw [actP_yes ht h]
  exact actI_key (t := t) (f := f) (re := p.1) (im := p.2) (point_fin h)
theorem okBd_point {mir : Int} {b : Bd} (h : okBd mir b = true) : pointB b.1.1 b.1.2 = true ∧ pointB b.2.1 b.2.2 = true := by
  unfold okBd wedgeB at h
  rw [Bool.and_eq_true, Bool.and_eq_true] at h
  exact ⟨h.1.1, h.2⟩
theorem okBd_zero {b : Bd} (h1 : pointB b.1.1 b.1.2 = true) (h2 : pointB b.2.1 b.2.2 = true) : okBd 0 b = true := by
  unfold okBd wedgeB
  rw [h1, h2]; rfl
theorem turn_TL {t : Int} {f : Bool} {mir : Int} {bs : List Bd} (ht : inB t 0 3 = true) (h : bs.all (okBd mir) = true) : TL t f (turnL t f bs) bs := by
  refine ⟨by simp [turnL], fun i b' b hb' hb => ?_⟩
  unfold turnL at hb'
  rw [List.getElem?_map, hb] at hb'
  injection hb' with hb'
  subst hb'
  obtain ⟨p1, p2⟩ := okBd_point (List.all_eq_true.1 h b (List.mem_of_getElem? hb))
  obtain ⟨a1, a2⟩ := actP_key (f := f) ht p1
  obtain ⟨b1, b2⟩ := actP_key (f := f) ht p2
  exact ⟨⟨a1, b1⟩, ⟨a2, b2⟩, point_fin p1, point_fin p2⟩
theorem tum_zero {mir : Int} {gr : Pt} {loss : Nat} {bs : List Bd} (h : tumB mir gr loss bs = true) : tumB 0 gr loss bs = true := by
  rw [tumB_parts] at h ⊢
  obtain ⟨h1, h2, h3, h4, h5⟩ := h
  refine ⟨by decide, h2, h3, h4, ?_⟩
  rw [List.all_eq_true] at h5 ⊢
  intro b hb
  obtain ⟨p1, p2⟩ := okBd_point (h5 b hb)
  exact okBd_zero p1 p2
theorem tum_turn {t : Int} {f : Bool} {gr : Pt} {loss : Nat} {bs : List Bd} (h : tumB 0 gr loss bs = true) : tumB 0 (actP t f gr.1 gr.2) loss (turnL t f bs) = true := by
  rw [tumB_parts] at h ⊢
  obtain ⟨h1, h2, h3, h4, h5⟩ := h
  refine ⟨by decide, actP_point _ _ _ _, h3, by simpa [turnL] using h4, ?_⟩
  rw [List.all_eq_true]
  intro x hx
  unfold turnL at hx
  obtain ⟨b, _, rfl⟩ := List.mem_map.1 hx
  exact okBd_zero (actP_point _ _ _ _) (actP_point _ _ _ _)
theorem eq_keys {p q : Pt} (hp : finP p) (hq : finP q) (h : keyP p = keyP q) : cxE p q = true := by
  unfold keyP at h
  injection h with h1 h2
  unfold cxE
  rw [eqB_fin hp.1 hq.1, eqB_fin hp.2 hq.2, h1, h2]
  simp
/-- what FnTurnedTumble asks -/
theorem turned {t : Int} {f : Bool} {gr : Pt} {loss : Nat} {bs : List Bd} (ht : inB t 0 3 = true) (h : tumB 0 gr loss bs = true) (k : Nat) :
    runS 0 (actP t f gr.1 gr.2) loss (turnL t f bs) k = runS 0 gr loss bs k ∧
    (runS 0 gr loss bs k = true → ∀ (i : Nat) x y, (runB 0 (actP t f gr.1 gr.2) loss (turnL t f bs) k)[i]? = some x → (turnL t f (runB 0 gr loss bs k))[i]? = some y → bdE x y = true) := by
  have hp := tumB_parts.1 h
  obtain ⟨g1, g2⟩ := actP_key (f := f) ht hp.2.1
  have hT := turn_TL (f := f) ht hp.2.2.2.2
  have hrb := runB_tum h k
  rcases run_turn (loss := loss) ht (point_fin hp.2.1) g2 g1 hT k with ⟨h1, h2⟩ | ⟨b', c', b, c, h1, h2, h3⟩
  · unfold runS
    rw [h1, h2]
    exact ⟨rfl, fun h => by cases h⟩
  · have e1 : runB 0 (actP t f gr.1 gr.2) loss (turnL t f bs) k = b' := by unfold runB; rw [h1]
    have e2 : runB 0 gr loss bs k = b := by unfold runB; rw [h2]
    rw [e2] at hrb
    unfold runS
    rw [h1, h2, e1, e2]
    refine ⟨rfl, fun _ i x y hx hy => ?_⟩
    have ho := (tumB_parts.1 hrb).2.2.2.2
    have hU := turn_TL (f := f) ht ho
    obtain ⟨z, hz, r1⟩ := TL_at' hU hy
    have r2 := h3.2 i _ _ hx hz
    unfold bdE
    rw [eq_keys r2.2.1.1 r1.2.1.1 (by rw [r2.1.1, r1.1.1]), eq_keys r2.2.1.2 r1.2.1.2 (by rw [r2.1.2, r1.1.2])]
    rfl
end Go.Proofs.Ytchkcleenmoajaa
