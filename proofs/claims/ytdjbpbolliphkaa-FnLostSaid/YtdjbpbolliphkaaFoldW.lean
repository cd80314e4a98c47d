
/- A bead without gravity and loss stands where the straight way, folded, stands: plain, by keys. -/
import Derived.Test.YtdjbpbolliphkaaSpan
import Derived.Test.YtdjbpbolliphkaaWay
namespace Go.Proofs.Ytdjbpbolliphkaa
open Go.RowKit

/-- one symmetry after the other -/
def app (l : List (Int × Bool)) (p : Int × Int) : Int × Int := l.foldr (fun g q => aI g.1 g.2 q) p
def inS (kind : Int) (l : List (Int × Bool)) : Prop := ∀ g ∈ l, g ∈ symsL kind
theorem app_plus (a b : Int × Int) : ∀ l, plusZ (app l a) (app l b) = app l (plusZ a b)
  | [] => rfl
  | g :: l => by show plusZ (aI g.1 g.2 (app l a)) (aI g.1 g.2 (app l b)) = aI g.1 g.2 (app l _); rw [plusZ_aI, app_plus a b l]
theorem inS_tail {kind : Int} {g : Int × Bool} {l : List (Int × Bool)} (h : inS kind (g :: l)) : g ∈ symsL kind ∧ inS kind l := ⟨h g (List.mem_cons_self ..), fun x hx => h x (List.mem_cons_of_mem _ hx)⟩
theorem app_sm {kind b : Int} (p : Int × Int) : ∀ l, inS kind l → (Sm b (app l p) ↔ Sm b p)
  | [], _ => Iff.rfl
  | g :: l, h => by
    obtain ⟨h1, h2⟩ := inS_tail h
    show Sm b (aI g.1 g.2 (app l p)) ↔ _
    rw [aI_sm_iff (symsL_in g h1)]
    exact app_sm p l h2
theorem app_span {kind : Int} (p : Int × Int) : ∀ l, inS kind l → spanZ (app l p) = spanZ p
  | [], _ => rfl
  | g :: l, h => by
    obtain ⟨h1, h2⟩ := inS_tail h
    show spanZ (aI g.1 g.2 (app l p)) = _
    rw [spanZ_aI (symsL_in g h1)]
    exact app_span p l h2
/-- what the symmetries of mirrors leave -/
def Inv (kind : Int) (p q : Int × Int) : Prop :=
  if kind = 0 then p = q else if kind = 1 then p.1 = q.1 ∧ p.2.natAbs = q.2.natAbs
  else if kind = 2 then p.1.natAbs = q.1.natAbs ∧ p.2.natAbs = q.2.natAbs
  else (p.1.natAbs = q.1.natAbs ∧ p.2.natAbs = q.2.natAbs) ∨ (p.1.natAbs = q.2.natAbs ∧ p.2.natAbs = q.1.natAbs)
theorem inv0 {p q : Int × Int} : Inv 0 p q ↔ p = q := by unfold Inv; simp
theorem inv1 {a b : Int} {q : Int × Int} : Inv 1 (a, b) q ↔ a = q.1 ∧ b.natAbs = q.2.natAbs := by unfold Inv; simp
theorem inv2 {a b : Int} {q : Int × Int} : Inv 2 (a, b) q ↔ a.natAbs = q.1.natAbs ∧ b.natAbs = q.2.natAbs := by unfold Inv; simp
theorem inv3 {a b : Int} {q : Int × Int} : Inv 3 (a, b) q ↔ (a.natAbs = q.1.natAbs ∧ b.natAbs = q.2.natAbs) ∨ (a.natAbs = q.2.natAbs ∧ b.natAbs = q.1.natAbs) := by unfold Inv; simp
theorem inv_step {kind : Int} (hk : inB kind 0 3 = true) {g : Int × Bool} (hg : g ∈ symsL kind) {p q : Int × Int} (h : Inv kind p q) : Inv kind (aI g.1 g.2 p) q := by
  obtain ⟨x, y⟩ := p
  rcases kinds hk with rfl | rfl | rfl | rfl
  · rw [syms0] at hg
    simp only [List.mem_cons, List.not_mem_nil, or_false] at hg
    subst hg
    exact h
  · rw [syms1] at hg
    simp only [List.mem_cons, List.not_mem_nil, or_false] at hg
    rw [inv1] at h
    rcases hg with rfl | rfl <;> dsimp only <;> rw [show ∀ f, aI 0 f (x, y) = (x, if f then -y else y) from fun f => rfl] <;> rw [inv1] <;> simp <;> omega
  · rw [syms2] at hg
    simp only [List.mem_cons, List.not_mem_nil, or_false] at hg
    rw [inv2] at h
    rcases hg with rfl | rfl | rfl | rfl <;> dsimp only <;> simp only [a00, a20, a01, a21] <;> rw [inv2] <;> omega
  · rw [syms3] at hg
    simp only [List.mem_cons, List.not_mem_nil, or_false] at hg
    rw [inv3] at h
    rcases hg with rfl | rfl | rfl | rfl | rfl | rfl | rfl | rfl <;> dsimp only <;> simp only [a00, a10, a20, a30, a01, a11, a21, a31] <;> rw [inv3] <;> omega
theorem inv_refl {kind : Int} (hk : inB kind 0 3 = true) (p : Int × Int) : Inv kind p p := by
  obtain ⟨x, y⟩ := p
  rcases kinds hk with rfl | rfl | rfl | rfl
  · exact inv0.2 rfl
  · exact inv1.2 ⟨rfl, rfl⟩
  · exact inv2.2 ⟨rfl, rfl⟩
  · exact inv3.2 (.inl ⟨rfl, rfl⟩)
theorem app_inv {kind : Int} (hk : inB kind 0 3 = true) (p : Int × Int) : ∀ l, inS kind l → Inv kind (app l p) p
  | [], _ => inv_refl hk p
  | g :: l, h => by
    obtain ⟨h1, h2⟩ := inS_tail h
    exact inv_step hk h1 (app_inv hk p l h2)
/-- two points of a wedge that have the same images are the same -/
theorem inv_side {kind : Int} (hk : inB kind 0 3 = true) {p q r : Int × Int} (hp : sideI kind p = true) (hq : sideI kind q = true) (h1 : Inv kind p r) (h2 : Inv kind q r) : p = q := by
  obtain ⟨x, y⟩ := p
  obtain ⟨a, b⟩ := q
  rcases kinds hk with rfl | rfl | rfl | rfl
  · rw [inv0] at h1 h2
    rw [h1, h2]
  · rw [inv1] at h1 h2
    simp [sideI] at hp hq
    rw [Prod.mk.injEq]; omega
  · rw [inv2] at h1 h2
    simp [sideI] at hp hq
    rw [Prod.mk.injEq]; omega
  · rw [inv3] at h1 h2
    simp [sideI] at hp hq
    rw [Prod.mk.injEq]; omega
theorem slow_zero {s : Pt} (h : finP s) : keyP (slow 0 s) = keyP s ∧ finP (slow 0 s) := by
  unfold slow
  rw [one_sub_zero]
  obtain ⟨a1, a2⟩ := mul_one_key h.1
  obtain ⟨b1, b2⟩ := mul_one_key h.2
  exact ⟨by unfold keyP; dsimp only; rw [a1, b1], a2, b2⟩
/-- a bead's tick where it is possible -/
theorem goBd_keys {kind : Int} (hk : inB kind 0 3 = true) {gr : Pt} {loss : Nat} {b : Bd} (h : goOk gr b = true) :
    ∃ g ∈ symsL kind, keyP (goBd kind gr loss b).1.1 = aI g.1 g.2 (keyP (plusP b.1 (plusP b.2 gr))) ∧ finP (goBd kind gr loss b).1.1 ∧ sideI kind (keyP (goBd kind gr loss b).1.1) = true ∧
    ((goBd kind gr loss b).1.2 = actP g.1 g.2 (plusP b.2 gr).1 (plusP b.2 gr).2 ∨ (goBd kind gr loss b).1.2 = slow loss (actP g.1 g.2 (plusP b.2 gr).1 (plusP b.2 gr).2)) := by
  unfold goOk at h
  rw [Bool.and_eq_true] at h
  obtain ⟨h1, h2⟩ := h
  obtain ⟨g, hg, hf, hs⟩ := firstG_some hk (keyP (plusP b.1 (plusP b.2 gr)))
  obtain ⟨k1, k2⟩ := actP_key (f := g.2) (symsL_in g hg) h2
  have e : goBd kind gr loss b = if g == (0, false) then ((actP g.1 g.2 (plusP b.1 (plusP b.2 gr)).1 (plusP b.1 (plusP b.2 gr)).2, actP g.1 g.2 (plusP b.2 gr).1 (plusP b.2 gr).2), false) else ((actP g.1 g.2 (plusP b.1 (plusP b.2 gr)).1 (plusP b.1 (plusP b.2 gr)).2, slow loss (actP g.1 g.2 (plusP b.2 gr).1 (plusP b.2 gr).2)), true) := by
    unfold goBd
    rw [foldP_g h2 hf]
  rw [e]
  split
  · exact ⟨g, hg, k1, k2, by dsimp only; rw [k1]; exact hs, .inl rfl⟩
  · exact ⟨g, hg, k1, k2, by dsimp only; rw [k1]; exact hs, .inr rfl⟩
theorem fin_zero : finP ((0, 0) : Pt) := ⟨f0, f0⟩
theorem plus_zero {p : Pt} (h : finP p) : keyP (plusP p (0, 0)) = keyP p ∧ finP (plusP p (0, 0)) := by
  obtain ⟨a1, a2, _⟩ := add_key h.1
  obtain ⟨b1, b2, _⟩ := add_key h.2
  exact ⟨by unfold keyP plusP; dsimp only; rw [a1, b1], a2, b2⟩
theorem zN_fin {z v : Pt} (hz : finP z) (hv : finP v) : ∀ k, finP (zN z v k)
  | 0 => hz
  | k + 1 => cwP_fin (plus_cw (zN_fin hz hv k) hv)
theorem wayB_succ (z v : Pt) (k : Nat) : wayB z v (k + 1) = (wayB z v k && pointB (zN z v (k + 1)).1 (zN z v (k + 1)).2) := by
  unfold wayB
  rw [List.range_succ, List.all_append]
  simp
/-- how the bead and the straight way go on together -/
theorem way_run {kind : Int} (hk : inB kind 0 3 = true) {z v : Pt} {b0 : Bd} {l0 : List (Int × Bool)} (hz : pointB z.1 z.2 = true) (hv : pointB v.1 v.2 = true) (hl : inS kind l0)
    (h1 : keyP b0.1 = app l0 (keyP z)) (h2 : keyP b0.2 = app l0 (keyP v)) (f1 : finP b0.1) (f2 : finP b0.2) (hs : sideI kind (keyP b0.1) = true) :
    ∀ k, (runUp kind (0, 0) 0 [b0] k = none ∧ wayB z v k = false) ∨ ∃ b c l, runUp kind (0, 0) 0 [b0] k = some ([b], c) ∧ wayB z v k = true ∧ inS kind l ∧ keyP b.1 = app l (keyP (zN z v k)) ∧ keyP b.2 = app l (keyP v) ∧ finP b.1 ∧ finP b.2 ∧ sideI kind (keyP b.1) = true
  | 0 => .inr ⟨b0, _, l0, rfl, rfl, hl, h1, h2, f1, f2, hs⟩
  | k + 1 => by
    rcases way_run hk hz hv hl h1 h2 f1 f2 hs k with ⟨e1, e2⟩ | ⟨b, c, l, e1, e2, e3, e4, e5, e6, e7, e8⟩
    · exact .inl ⟨runUp_none e1 1, by rw [wayB_succ, e2]; rfl⟩
    · obtain ⟨p1, p2⟩ := plus_zero e7
      have fz := zN_fin (point_fin hz) (point_fin hv) k
      have fz' := zN_fin (point_fin hz) (point_fin hv) (k + 1)
      have fp := cwP_fin (plus_cw e6 p2)
      have hv' : pointB (plusP b.2 (0, 0)).1 (plusP b.2 (0, 0)).2 = true := by
        rw [point_key p2, p1, e5, app_sm _ l e3]
        exact (point_key (point_fin hv)).1 hv
      have hpl : keyP (plusP b.1 (plusP b.2 (0, 0))) = app l (keyP (zN z v (k + 1))) := by
        rw [plus_keys e6 p2, p1, e4, e5, app_plus]
        show _ = app l (keyP (plusP (zN z v k) v))
        rw [plus_keys fz (point_fin hv)]
      have hgo : goOk (0, 0) b = pointB (zN z v (k + 1)).1 (zN z v (k + 1)).2 := by
        unfold goOk
        rw [hv', Bool.true_and, Bool.eq_iff_iff, point_key fp, point_key fz', hpl, app_sm _ l e3]
      have hall : allGo (0, 0) [b] = goOk (0, 0) b := by unfold allGo; simp
      cases hp : pointB (zN z v (k + 1)).1 (zN z v (k + 1)).2
      · exact .inl ⟨runUp_no e1 (by rw [hall, hgo]; exact hp), by rw [wayB_succ, hp, Bool.and_false]⟩
      · have ho : goOk (0, 0) b = true := by rw [hgo]; exact hp
        obtain ⟨g, hg, k1, k2, k3, k4⟩ := goBd_keys hk (loss := 0) ho
        obtain ⟨q1, q2⟩ := actP_key (f := g.2) (symsL_in g hg) hv'
        have hsp : keyP (goBd kind (0, 0) 0 b).1.2 = aI g.1 g.2 (keyP (plusP b.2 (0, 0))) ∧ finP (goBd kind (0, 0) 0 b).1.2 := by
          rcases k4 with k4 | k4
          · rw [k4]; exact ⟨q1, q2⟩
          · rw [k4]
            obtain ⟨s1, s2⟩ := slow_zero q2
            exact ⟨s1.trans q1, s2⟩
        refine .inr ⟨(goBd kind (0, 0) 0 b).1, _, g :: l, runUp_yes e1 (by rw [hall]; exact ho), by rw [wayB_succ, e2, hp]; rfl, ?_, ?_, ?_, k2, hsp.2, k3⟩
        · intro x hx
          rcases List.mem_cons.1 hx with rfl | hx
          · exact hg
          · exact e3 x hx
        · rw [k1, hpl]; rfl
        · rw [hsp.1, p1, e5]; rfl
/-- the bead that is asked about -/
def bead0 (kind : Int) (z v : Pt) : Bd := ((foldP kind z).1, actP (foldP kind z).2.1.1 (foldP kind z).2.1.2 v.1 v.2)
theorem bead0_ok {kind : Int} (hk : inB kind 0 3 = true) (z v : Pt) : tumB kind (0, 0) 0 [bead0 kind z v] = true := by
  rw [tumB_parts]
  refine ⟨hk, by decide +kernel, by decide +kernel, by simp, ?_⟩
  simp only [List.all_cons, List.all_nil, Bool.and_true]
  unfold okBd bead0
  rw [Bool.and_eq_true]
  exact ⟨foldP_wedge hk _, actP_point _ _ _ _⟩
theorem wayB_end {z v : Pt} {n : Nat} (hz : pointB z.1 z.2 = true) (h : wayB z v n = true) : pointB (zN z v n).1 (zN z v n).2 = true := by
  cases n with
  | zero => exact hz
  | succ n => rw [wayB_succ, Bool.and_eq_true] at h; exact h.2
theorem folded {kind : Int} (hk : inB kind 0 3 = true) {z v : Pt} (hz : pointB z.1 z.2 = true) (hv : pointB v.1 v.2 = true) (n : Nat) :
    runS kind (0, 0) 0 [bead0 kind z v] n = wayB z v n ∧
    (wayB z v n = true → (foldP kind (zN z v n)).2.2 = true ∧ ∃ b, runB kind (0, 0) 0 [bead0 kind z v] n = [b] ∧ finP b.2 ∧ cxE b.1 (foldP kind (zN z v n)).1 = true ∧ eqB (spanB b.2) (spanB v) = true) := by
  obtain ⟨g, hg, hf, hs⟩ := firstG_some hk (keyP z)
  have hgi := symsL_in g hg
  obtain ⟨a1, a2⟩ := actP_key (f := g.2) hgi hz
  obtain ⟨b1, b2⟩ := actP_key (f := g.2) hgi hv
  have e0 : bead0 kind z v = (actP g.1 g.2 z.1 z.2, actP g.1 g.2 v.1 v.2) := by unfold bead0; rw [foldP_g hz hf]
  rw [e0]
  rcases way_run hk (b0 := (actP g.1 g.2 z.1 z.2, actP g.1 g.2 v.1 v.2)) (l0 := [g]) hz hv (fun x hx => by rw [List.mem_singleton.1 hx]; exact hg) a1 b1 a2 b2 (by rw [a1]; exact hs) n with ⟨e1, e2⟩ | ⟨b, c, l, e1, e2, e3, e4, e5, e6, e7, e8⟩
  · unfold runS
    rw [e1, e2]
    exact ⟨rfl, fun h => by cases h⟩
  · unfold runS runB
    rw [e1, e2]
    refine ⟨rfl, fun _ => ?_⟩
    have hpn := wayB_end hz e2
    obtain ⟨g', hg', hf', hs'⟩ := firstG_some hk (keyP (zN z v n))
    obtain ⟨q1, q2⟩ := actP_key (f := g'.2) (symsL_in g' hg') hpn
    rw [foldP_g hpn hf']
    refine ⟨rfl, b, rfl, e7, eq_keys e6 q2 ?_, ?_⟩
    · rw [q1]
      have hs2 := e8
      rw [e4] at hs2 ⊢
      exact inv_side hk hs2 hs' (app_inv hk _ l e3) (inv_step hk hg' (inv_refl hk _))
    · obtain ⟨s1, s2⟩ := span_key e7
      obtain ⟨t1, t2⟩ := span_key (point_fin hv)
      rw [eqB_fin s2 t2, s1, t1, e5, app_span _ l e3]
      simp
end Go.Proofs.Ytdjbpbolliphkaa
