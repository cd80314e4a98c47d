
/- Plain laws on tumbles, by keys: sums and symmetries, the fold of both versions, one bead's tick. -/
import Derived.Test.YtdjbpbolliphkaaTumS
import Derived.Test.YtdjbpbolliphkaaFltA
namespace Go.Proofs.Ytdjbpbolliphkaa
open Go.RowKit

def cwP (p : Pt) : Prop := cw p.1 ∧ cw p.2
theorem cwP_fin {p : Pt} (h : cwP p) : finP p := ⟨h.1.1, h.2.1⟩
theorem cwP_ext {p q : Pt} (hp : cwP p) (hq : cwP q) (h : keyP p = keyP q) : p = q := by
  unfold keyP at h
  injection h with h1 h2
  exact Prod.ext (cw_ext hp.1 hq.1 h1) (cw_ext hp.2 hq.2 h2)
theorem plus_cw {p q : Pt} (hp : finP p) (hq : finP q) : cwP (plusP p q) := ⟨addB_cw hp.1 hq.1, addB_cw hp.2 hq.2⟩
def plusZ (a b : Int × Int) : Int × Int := (key (addK a.1 b.1), key (addK a.2 b.2))
theorem plus_keys {p q : Pt} (hp : finP p) (hq : finP q) : keyP (plusP p q) = plusZ (keyP p) (keyP q) := by
  unfold keyP plusP plusZ
  dsimp only
  rw [add_keys hp.1 hq.1, add_keys hp.2 hq.2]
theorem plusZ_rI (a b : Int × Int) : plusZ (rI a) (rI b) = rI (plusZ a b) := by
  unfold plusZ rI
  dsimp only
  rw [addK_neg]
theorem plusZ_rIN (a b : Int × Int) : ∀ n, plusZ (rIN n a) (rIN n b) = rIN n (plusZ a b)
  | 0 => rfl
  | n + 1 => by show plusZ (rI (rIN n a)) (rI (rIN n b)) = rI (rIN n _); rw [plusZ_rI, plusZ_rIN a b n]
theorem plusZ_aI (t : Int) (f : Bool) (a b : Int × Int) : plusZ (aI t f a) (aI t f b) = aI t f (plusZ a b) := by
  unfold aI
  rw [plusZ_rIN]
  cases f
  · rfl
  · unfold plusZ; simp only [if_true]; rw [addK_neg]
theorem rotB_cw {p : Pt} (h : cwP p) : cwP (rotB p) := ⟨neg_cw h.2.1, h.1⟩
theorem rotN_cw {p : Pt} (h : cwP p) : ∀ n, cwP (rotN n p)
  | 0 => h
  | n + 1 => rotB_cw (rotN_cw h n)
theorem flip_cw {f : Bool} {y : Nat} (h : cw y) : cw (flipB f y) := by
  cases f
  · exact h
  · exact neg_cw h.1
theorem actI_cw {t : Int} {f : Bool} {re im : Nat} (h : cwP (re, im)) : cwP (actI t f re im) := by
  have hr := rotN_cw (p := (re, flipB f im)) ⟨h.1, flip_cw h.2⟩ t.toNat
  exact ⟨cleanB_cw hr.1.1 (cw_lt hr.1), cleanB_cw hr.2.1 (cw_lt hr.2)⟩
theorem actS_cw {t : Int} {f : Bool} {re im : Nat} (h : finP (re, im)) : cwP (actS t f re im) :=
  rotN_cw (p := (addB re 0, flipB f (addB im 0))) ⟨(add_key h.1).2.2, flip_cw (add_key h.2).2.2⟩ t.toNat
theorem actS_actI {t : Int} {f : Bool} {re im : Nat} (h : cwP (re, im)) : actS t f re im = actI t f re im :=
  cwP_ext (actS_cw (cwP_fin h)) (actI_cw h) (by rw [(actS_key (cwP_fin h)).1, (actI_key (cwP_fin h)).1])
theorem actP_yes {t : Int} {f : Bool} {re im : Nat} (ht : inB t 0 3 = true) (h : pointB re im = true) : actP t f re im = actI t f re im := by
  unfold actP
  rw [ht, h]; rfl

/-- the wedge on integers -/
def sideI (kind : Int) (p : Int × Int) : Bool := if kind = 0 then true else if kind = 1 then decide (0 ≤ p.2) else if kind = 2 then decide (0 ≤ p.1) && decide (0 ≤ p.2) else if kind = 3 then decide (0 ≤ p.2) && decide (p.2 ≤ p.1) else false
theorem f0 : finB 0 = true := by decide
theorem k0 : key 0 = 0 := by decide
theorem sideB_key {kind : Int} {p : Pt} (h : finP p) : sideB kind p = sideI kind (keyP p) := by
  unfold sideB sideI keyP
  rw [ge_le h.1 f0, ge_le h.2 f0, leB_fin f0 h.2, leB_fin h.2 h.1, leB_fin f0 h.1, k0]
theorem syms0 : symsL 0 = [(0, false)] := by decide
theorem syms1 : symsL 1 = [(0, false), (0, true)] := by decide
theorem syms2 : symsL 2 = [(0, false), (2, false), (0, true), (2, true)] := by decide
theorem syms3 : symsL 3 = [(0, false), (1, false), (2, false), (3, false), (0, true), (1, true), (2, true), (3, true)] := by decide
theorem kinds {kind : Int} (hk : inB kind 0 3 = true) : kind = 0 ∨ kind = 1 ∨ kind = 2 ∨ kind = 3 := by
  obtain ⟨k1, k2⟩ := inB_true hk
  omega
theorem a00 (x y : Int) : aI 0 false (x, y) = (x, y) := rfl
theorem a10 (x y : Int) : aI 1 false (x, y) = (-y, x) := rfl
theorem a20 (x y : Int) : aI 2 false (x, y) = (-x, -y) := rfl
theorem a30 (x y : Int) : aI 3 false (x, y) = (-(-y), -x) := rfl
theorem a01 (x y : Int) : aI 0 true (x, y) = (x, -y) := rfl
theorem a11 (x y : Int) : aI 1 true (x, y) = (-(-y), x) := rfl
theorem a21 (x y : Int) : aI 2 true (x, y) = (-x, -(-y)) := rfl
theorem a31 (x y : Int) : aI 3 true (x, y) = (-(-(-y)), -x) := rfl
theorem side1 {a b : Int} (h : 0 ≤ b) : sideI 1 (a, b) = true := by simp [sideI, h]
theorem side2 {a b : Int} (h : 0 ≤ a) (h2 : 0 ≤ b) : sideI 2 (a, b) = true := by simp [sideI, h, h2]
theorem side3 {a b : Int} (h : 0 ≤ b) (h2 : b ≤ a) : sideI 3 (a, b) = true := by simp [sideI, h, h2]
theorem hitI {kind : Int} (hk : inB kind 0 3 = true) (p : Int × Int) : ∃ g ∈ symsL kind, sideI kind (aI g.1 g.2 p) = true := by
  obtain ⟨x, y⟩ := p
  rcases kinds hk with rfl | rfl | rfl | rfl
  · exact ⟨(0, false), by rw [syms0]; decide, rfl⟩
  · rw [syms1]
    by_cases h : 0 ≤ y
    · exact ⟨(0, false), by decide, side1 (a := x) (b := y) h⟩
    · exact ⟨(0, true), by decide, side1 (a := x) (b := -y) (by omega)⟩
  · rw [syms2]
    by_cases h : 0 ≤ y <;> by_cases h2 : 0 ≤ x
    · exact ⟨(0, false), by decide, side2 (a := x) (b := y) (by omega) (by omega)⟩
    · exact ⟨(2, true), by decide, side2 (a := -x) (b := -(-y)) (by omega) (by omega)⟩
    · exact ⟨(0, true), by decide, side2 (a := x) (b := -y) (by omega) (by omega)⟩
    · exact ⟨(2, false), by decide, side2 (a := -x) (b := -y) (by omega) (by omega)⟩
  · rw [syms3]
    by_cases h : 0 ≤ y <;> by_cases h2 : 0 ≤ x
    · by_cases h3 : y ≤ x
      · exact ⟨(0, false), by decide, side3 (a := x) (b := y) (by omega) (by omega)⟩
      · exact ⟨(1, true), by decide, side3 (a := -(-y)) (b := x) (by omega) (by omega)⟩
    · by_cases h3 : y ≤ -x
      · exact ⟨(2, true), by decide, side3 (a := -x) (b := -(-y)) (by omega) (by omega)⟩
      · exact ⟨(3, false), by decide, side3 (a := -(-y)) (b := -x) (by omega) (by omega)⟩
    · by_cases h3 : -y ≤ x
      · exact ⟨(0, true), by decide, side3 (a := x) (b := -y) (by omega) (by omega)⟩
      · exact ⟨(1, false), by decide, side3 (a := -y) (b := x) (by omega) (by omega)⟩
    · by_cases h3 : -y ≤ -x
      · exact ⟨(2, false), by decide, side3 (a := -x) (b := -y) (by omega) (by omega)⟩
      · exact ⟨(3, true), by decide, side3 (a := -(-(-y))) (b := -x) (by omega) (by omega)⟩
theorem wedge_key {kind t : Int} {f : Bool} {z : Pt} (ht : inB t 0 3 = true) (h : pointB z.1 z.2 = true) : wedgeB kind (actP t f z.1 z.2) = sideI kind (aI t f (keyP z)) := by
  obtain ⟨a, b⟩ := actI_key (t := t) (f := f) (re := z.1) (im := z.2) (point_fin h)
  unfold wedgeB
  rw [actP_point, Bool.true_and, actP_yes ht h, sideB_key b, a]
theorem sideS_key {kind t : Int} {f : Bool} {z : Pt} (h : pointB z.1 z.2 = true) : sideS kind (actS t f z.1 z.2) = sideI kind (aI t f (keyP z)) := by
  obtain ⟨a, b⟩ := actS_key (t := t) (f := f) (re := z.1) (im := z.2) (point_fin h)
  rw [sideS_eq b, sideB_key b, a]
/-- the fold of a point: the first symmetry that takes it into the wedge -/
def firstG (kind : Int) (p : Int × Int) : Option (Int × Bool) := (symsL kind).find? (fun g => sideI kind (aI g.1 g.2 p))
theorem firstG_some {kind : Int} (hk : inB kind 0 3 = true) (p : Int × Int) : ∃ g ∈ symsL kind, firstG kind p = some g ∧ sideI kind (aI g.1 g.2 p) = true := by
  obtain ⟨g, hg, hs⟩ := hitI hk p
  cases h : firstG kind p with
  | none =>
    have := List.find?_eq_none.1 h g hg
    rw [hs] at this; simp at this
  | some g' =>
    exact ⟨g', List.mem_of_find?_eq_some h, rfl, List.find?_some (p := fun g : Int × Bool => sideI kind (aI g.1 g.2 p)) h⟩
theorem find_congr {α : Type} {p q : α → Bool} : ∀ {l : List α}, (∀ x ∈ l, p x = q x) → l.find? p = l.find? q
  | [], _ => rfl
  | x :: l, h => by
    rw [List.find?_cons, List.find?_cons, h x (List.mem_cons_self ..), find_congr (fun y hy => h y (List.mem_cons_of_mem _ hy))]
theorem foldP_g {kind : Int} {z : Pt} {g : Int × Bool} (h : pointB z.1 z.2 = true) (hg : firstG kind (keyP z) = some g) : foldP kind z = (actP g.1 g.2 z.1 z.2, g, true) := by
  unfold foldP foldG
  rw [h, if_pos rfl]
  have : (symsL kind).find? (fun g => wedgeB kind (actP g.1 g.2 z.1 z.2)) = some g := by
    rw [← hg]
    exact find_congr (fun g hg => wedge_key (symsL_in g hg) h)
  rw [this]
theorem foldS_g {kind : Int} {z : Pt} {g : Int × Bool} (h : pointB z.1 z.2 = true) (hg : firstG kind (keyP z) = some g) : foldS kind z = (actS g.1 g.2 z.1 z.2, g, true) := by
  unfold foldS foldH
  rw [h, if_pos rfl]
  have : (symsL kind).find? (fun g => sideS kind (actS g.1 g.2 z.1 z.2)) = some g := by
    rw [← hg]
    exact find_congr (fun g hg => sideS_key h)
  rw [this]
theorem foldP_no {kind : Int} {z : Pt} (h : pointB z.1 z.2 = false) : foldP kind z = ((0, 0), (0, false), false) := by unfold foldP; rw [h]; rfl
theorem foldS_no {kind : Int} {z : Pt} (h : pointB z.1 z.2 = false) : foldS kind z = ((0, 0), (0, false), false) := by unfold foldS; rw [h]; rfl
/-- both versions fold a clean point alike, and know when it is possible -/
theorem fold_eq {kind : Int} {z : Pt} (hk : inB kind 0 3 = true) (hz : cwP z) : foldS kind z = foldP kind z ∧ (foldP kind z).2.2 = pointB z.1 z.2 ∧ inB (foldP kind z).2.1.1 0 3 = true := by
  cases h : pointB z.1 z.2
  · rw [foldS_no h, foldP_no h]; exact ⟨rfl, rfl, by decide⟩
  · obtain ⟨g, hm, hg, _⟩ := firstG_some hk (keyP z)
    rw [foldS_g h hg, foldP_g h hg, actP_yes (symsL_in g hm) h]
    refine ⟨?_, rfl, symsL_in g hm⟩
    rw [actS_actI (show cwP (z.1, z.2) from hz)]
/-- without mirrors nothing is folded -/
theorem foldP_none (z : Pt) : (foldP 0 z).2.1 = (0, false) := by
  cases h : pointB z.1 z.2
  · rw [foldP_no h]
  · have : firstG 0 (keyP z) = some (0, false) := by unfold firstG; rw [syms0]; rfl
    rw [foldP_g h this]
theorem goBd_none {gr : Pt} {loss : Nat} {b : Bd} : (goBd 0 gr loss b).2 = false := by
  unfold goBd
  dsimp only
  rw [if_pos (by rw [foldP_none]; rfl)]
end Go.Proofs.Ytdjbpbolliphkaa
