/- FoldS · PlusS · SymPS · PicP -/
import Derived.Test.YtchkcleenmoajaaFold
import Derived.Test.YtchkcleenmoajaaM9
import Derived.Test.YtchkcleenmoajaaSymP
import Derived.Test.YtchkcleenmoajaaM23
import Derived.Deep.RegionLaw
import Derived.Test.YtchkcleenmoajaaFlt

/- IsPoint, l1Wedge, FoldPoint: the specification's. -/
namespace Go.Proofs.Ytchkcleenmoajaa
open Go.RowKit
attribute [local go_sem] run_store_float run_store_complex

def sideS (kind : Int) (p : Pt) : Bool := if kind = 0 then true else if kind = 1 then geB p.2 0 else if kind = 2 then geB p.1 0 && geB p.2 0 else if kind = 3 then geB p.2 0 && leB p.2 p.1 else false
def foldH (kind : Int) (z : Pt) (l : List (Int × Bool)) : Pt × (Int × Bool) × Bool := match l.find? (fun g => sideS kind (actS g.1 g.2 z.1 z.2)) with
  | some g => (actS g.1 g.2 z.1 z.2, g, true)
  | none => ((0, 0), (0, false), false)
def foldS (kind : Int) (z : Pt) : Pt × (Int × Bool) × Bool := if pointB z.1 z.2 then foldH kind z (symsL kind) else ((0, 0), (0, false), false)
theorem foldH_hit {kind : Int} {z : Pt} {l : List (Int × Bool)} {k : Nat} {g : Int × Bool} (hx : l[k]? = some g) (hall : ∀ (i : Nat) y, i < k → l[i]? = some y → sideS kind (actS y.1 y.2 z.1 z.2) = false) (h : sideS kind (actS g.1 g.2 z.1 z.2) = true) : foldH kind z l = (actS g.1 g.2 z.1 z.2, g, true) := by
  unfold foldH
  have : l.find? (fun g => sideS kind (actS g.1 g.2 z.1 z.2)) = some g := by
    obtain ⟨hk1, hk2⟩ := (List.getElem?_eq_some_iff.1 hx)
    rw [List.find?_eq_some_iff_getElem]
    exact ⟨h, k, hk1, hk2, fun j hj => by simpa using hall j _ hj (List.getElem?_eq_getElem (by omega))⟩
  rw [this]
theorem foldH_miss {kind : Int} {z : Pt} {l : List (Int × Bool)} (hall : ∀ (i : Nat) y, l[i]? = some y → sideS kind (actS y.1 y.2 z.1 z.2) = false) : foldH kind z l = ((0, 0), (0, false), false) := by
  unfold foldH
  have : l.find? (fun g => sideS kind (actS g.1 g.2 z.1 z.2)) = none := by
    rw [List.find?_eq_none]
    intro x hx
    obtain ⟨i, hi⟩ := List.getElem?_of_mem hx
    simp [hall i x hi]
  rw [this]
theorem symsL_in {kind : Int} : ∀ g ∈ symsL kind, inB g.1 0 3 = true := by
  intro g hg
  unfold symsL symsUp at hg
  obtain ⟨h1, _⟩ := List.mem_filter.1 hg
  obtain ⟨k, hk, rfl⟩ := List.mem_map.1 h1
  exact sym8_t k (by simpa using hk)

end Go.Proofs.Ytchkcleenmoajaa

/- l3Plus: the specification's. -/
namespace Go.Proofs.Ytchkcleenmoajaa
open Go.RowKit
attribute [local go_sem] run_store_float run_store_complex

theorem specPlus_any (a b : Pt) (w : World) :
    Calls Try.prog 62 #[.complex .f32 a.1 a.2, .complex .f32 b.1 b.2] w fun e w' => e = .returned (.complex .f32 (plusP a b).1 (plusP a b).2) ∧ Dr w w' := by
  go_enter Try.func62, Try.ntmps62
  go_wp2_with fail
  refine (l1Plus_any _ _ _).mono ?_
  rintro e w' ⟨rfl, n, rfl⟩
  go_wp2_with fail
  refine (l1Plus_any _ _ _).mono ?_
  rintro e w' ⟨rfl, k, rfl⟩
  go_wp2
  go_ret
  exact ⟨rfl, n + k, rfl⟩

end Go.Proofs.Ytchkcleenmoajaa

/- SymsOfPicture, the reference's. -/
namespace Go.Proofs.Ytchkcleenmoajaa
open Go.RowKit
attribute [local go_sem] run_store_float run_store_complex

/-- the first m symmetries that are kept -/
def keptUp (s : Int) (xs : List Col) (m : Nat) : List (Int × Bool) := ((List.range m).map sym8).filter (fun g => pictB s xs && keepB s xs g)
theorem keptUp_succ (s : Int) (xs : List Col) (m : Nat) : keptUp s xs (m + 1) = keptUp s xs m ++ if (pictB s xs && keepB s xs (sym8 m)) then [sym8 m] else [] := by
  unfold keptUp
  rw [List.range_succ, List.map_append, List.filter_append]
  simp [List.filter_cons]
theorem keptUp_yes {s : Int} {xs : List Col} {m : Nat} (h : (pictB s xs && keepB s xs (sym8 m)) = true) : keptUp s xs (m + 1) = keptUp s xs m ++ [sym8 m] := by rw [keptUp_succ, if_pos h]
theorem keptUp_no {s : Int} {xs : List Col} {m : Nat} (h : (pictB s xs && keepB s xs (sym8 m)) = false) : keptUp s xs (m + 1) = keptUp s xs m := by rw [keptUp_succ, if_neg (by simp [h]), List.append_nil]
theorem keptUp_len (s : Int) (xs : List Col) (m : Nat) : (keptUp s xs m).length ≤ m := by
  unfold keptUp
  exact Nat.le_trans (List.length_filter_le _ _) (by simp)
theorem symsL_3 : symsL 3 = (List.range 8).map sym8 := by decide
theorem keptUp_8 (s : Int) (xs : List Col) : keptUp s xs 8 = symsP s xs := by
  unfold keptUp symsP
  rw [← symsL_3]
  cases pictB s xs
  · simp
  · simp

end Go.Proofs.Ytchkcleenmoajaa

/- Pictures in plain Lean: acting cell by cell, the same pictures, what keeps a picture. -/
namespace Go.Proofs.Ytchkcleenmoajaa

theorem sym_num {t : Int} {f : Bool} (h : inB t 0 3 = true) : ∃ g, g < 8 ∧ sym8 g = (t, f) := by
  obtain ⟨h0, h3⟩ := inB_true h
  have e : t = 0 ∨ t = 1 ∨ t = 2 ∨ t = 3 := by omega
  rcases e with rfl | rfl | rfl | rfl <;> cases f
  · exact ⟨0, by decide, by decide⟩
  · exact ⟨4, by decide, by decide⟩
  · exact ⟨1, by decide, by decide⟩
  · exact ⟨5, by decide, by decide⟩
  · exact ⟨2, by decide, by decide⟩
  · exact ⟨6, by decide, by decide⟩
  · exact ⟨3, by decide, by decide⟩
  · exact ⟨7, by decide, by decide⟩

/-- a picture of size q + 1 -/
def Pic (q : Nat) (xs : List Col) : Prop := q < 8 ∧ xs.length = (q + 1) * (q + 1) ∧ xs.all colB = true
theorem pic_of {s : Int} {xs : List Col} (h : pictB s xs = true) : ∃ q : Nat, s = (q : Int) + 1 ∧ Pic q xs := by
  unfold pictB at h
  simp only [Bool.and_eq_true, beq_iff_eq] at h
  obtain ⟨h1, h2, h3⟩ := h
  obtain ⟨b1, b2⟩ := inB_true h1
  refine ⟨(s - 1).toNat, by omega, by omega, ?_, h3⟩
  have e : s = (((s - 1).toNat + 1 : Nat) : Int) := by omega
  generalize (s - 1).toNat = q at e
  subst e
  rw [← Int.natCast_mul] at h2
  exact Int.ofNat.inj h2
theorem pic_ok {q : Nat} {xs : List Col} (h : Pic q xs) : pictB ((q : Int) + 1) xs = true := by
  obtain ⟨h1, h2, h3⟩ := h
  unfold pictB inB
  simp only [Bool.and_eq_true, beq_iff_eq, decide_eq_true_eq]
  refine ⟨⟨by omega, by omega⟩, ?_, h3⟩
  rw [h2, Int.natCast_mul]
  have e : ((q + 1 : Nat) : Int) = (q : Int) + 1 := by omega
  rw [e]

def toN (q k : Nat) (g : Int × Bool) : Nat := (cellI ((q : Int) + 1) k g.1 g.2).toNat
/-- the cell is one of the picture, and no other number -/
theorem toN_ok {q k : Nat} {g : Int × Bool} (hq : q < 8) (hk : k < (q + 1) * (q + 1)) (_hg : inB g.1 0 3 = true) : cellI ((q : Int) + 1) k g.1 g.2 = (toN q k g : Nat) ∧ toN q k g < (q + 1) * (q + 1) := by
  have h := cellI_bd (okCell_of q k hq hk) g.1 g.2
  have e : toN q k g = (cellI ((q : Int) + 1) k g.1 g.2).toNat := rfl
  refine ⟨by omega, ?_⟩
  have h2 : (toN q k g : Int) < (((q + 1) * (q + 1) : Nat) : Int) := by
    rw [Int.natCast_mul]
    have e2 : ((q + 1 : Nat) : Int) = (q : Int) + 1 := by omega
    rw [e2]; omega
  omega
theorem toN_back {q k : Nat} {g : Int × Bool} (hq : q < 8) (hk : k < (q + 1) * (q + 1)) (hg : inB g.1 0 3 = true) : toN q (toN q k g) (backP g.1 g.2) = k := by
  obtain ⟨n, hn, e⟩ := sym_num (f := g.2) hg
  have e : sym8 n = g := e
  have h := (cells_all q k n hq hk hn).2.2
  rw [e] at h
  have h1 := (toN_ok hq hk hg).1
  rw [h1] at h
  unfold toN at h ⊢
  rw [h]; simp
theorem toN_then {q k : Nat} {g h : Int × Bool} (hq : q < 8) (hk : k < (q + 1) * (q + 1)) (hg : inB g.1 0 3 = true) (hh : inB h.1 0 3 = true) : toN q (toN q k g) h = toN q k (thenP g.1 g.2 h.1 h.2) := by
  obtain ⟨n, hn, e⟩ := sym_num (f := g.2) hg
  obtain ⟨m, hm, e'⟩ := sym_num (f := h.2) hh
  have e : sym8 n = g := e
  have e' : sym8 m = h := e'
  obtain ⟨h1, h2, h3⟩ := cells_all q k n hq hk hn
  have ht := then_all n hn m hm (ptI ((q : Int) + 1) k)
  rw [e, e'] at ht
  rw [e] at h2
  have h4 := (toN_ok hq hk hg).1
  have h5 : cellI ((q : Int) + 1) (toN q k g) h.1 h.2 = cellI ((q : Int) + 1) k (thenP g.1 g.2 h.1 h.2).1 (thenP g.1 g.2 h.1 h.2).2 := by
    rw [← h4]
    unfold cellI
    rw [← ht]
    congr 2
  unfold toN at h5 ⊢
  rw [h5]
theorem back_in {g : Int × Bool} (hg : inB g.1 0 3 = true) : inB (backP g.1 g.2).1 0 3 = true := by
  obtain ⟨n, hn, e⟩ := sym_num (f := g.2) hg
  have e : sym8 n = g := e
  have := back_ok n hn
  rwa [e] at this
theorem then_in {g h : Int × Bool} (hg : inB g.1 0 3 = true) (hh : inB h.1 0 3 = true) : inB (thenP g.1 g.2 h.1 h.2).1 0 3 = true := by
  obtain ⟨n, hn, e⟩ := sym_num (f := g.2) hg
  obtain ⟨m, hm, e'⟩ := sym_num (f := h.2) hh
  have e : sym8 n = g := e
  have e' : sym8 m = h := e'
  have := then_ok n hn m hm
  rwa [e, e'] at this
theorem toN_inj {q k k' : Nat} {g : Int × Bool} (hq : q < 8) (hk : k < (q + 1) * (q + 1)) (hk' : k' < (q + 1) * (q + 1)) (hg : inB g.1 0 3 = true) (h : toN q k g = toN q k' g) : k = k' := by
  rw [← toN_back hq hk hg, ← toN_back hq hk' hg, h]
theorem toN_id {q k : Nat} (hq : q < 8) (hk : k < (q + 1) * (q + 1)) : toN q k (0, false) = k := by
  have h0 : inB 0 0 3 = true := by decide
  have h1 := toN_back (g := (0, false)) hq hk h0
  have h2 := toN_then (g := (0, false)) (h := (0, false)) hq hk h0 h0
  have e : thenP 0 false 0 false = (0, false) := by decide
  dsimp only at h2
  rw [e] at h2
  exact toN_inj hq (toN_ok hq hk h0).2 hk h0 h2

/-! ### acting -/
theorem actUp_at {q : Nat} {xs : List Col} {g : Int × Bool} (hp : Pic q xs) (hg : inB g.1 0 3 = true) : ∀ m, m ≤ xs.length → ∀ k, k < m → (actUp ((q : Int) + 1) g.1 g.2 xs m)[toN q k g]? = xs[k]? := by
  obtain ⟨hq, hl, _⟩ := hp
  intro m
  induction m with
  | zero => intro _ k hk; omega
  | succ m ih =>
    intro hm k hk
    have hx : xs[m]? = some xs[m] := List.getElem?_eq_getElem (by omega)
    rw [actUp_succ hx]
    have e : (cellI ((q : Int) + 1) m g.1 g.2).toNat = toN q m g := rfl
    rw [e]
    by_cases h : k = m
    · subst h
      rw [List.getElem?_set_self (by rw [actUp_len]; have := (toN_ok (k := k) hq (by omega) hg).2; omega), hx]
    · rw [List.getElem?_set_ne (fun e => h (toN_inj hq (by omega) (by omega) hg e.symm))]
      exact ih (by omega) k (by omega)
theorem actL_eq {q : Nat} {xs : List Col} {g : Int × Bool} (hp : Pic q xs) (hg : inB g.1 0 3 = true) : actL g.1 g.2 ((q : Int) + 1) xs = ((q : Int) + 1, actUp ((q : Int) + 1) g.1 g.2 xs xs.length) := by
  unfold actL
  rw [hg, pic_ok hp]
  rfl
theorem act_at {q k : Nat} {xs : List Col} {g : Int × Bool} (hp : Pic q xs) (hg : inB g.1 0 3 = true) (hk : k < xs.length) : (actL g.1 g.2 ((q : Int) + 1) xs).2[toN q k g]? = xs[k]? := by
  rw [actL_eq hp hg]
  exact actUp_at hp hg _ (Nat.le_refl _) k hk
/-- read from behind -/
theorem act_at' {q k : Nat} {xs : List Col} {g : Int × Bool} (hp : Pic q xs) (hg : inB g.1 0 3 = true) (hk : k < xs.length) : ∃ j, j < xs.length ∧ toN q j g = k ∧ (actL g.1 g.2 ((q : Int) + 1) xs).2[k]? = xs[j]? := by
  have hb := back_in hg
  have hk' : k < (q + 1) * (q + 1) := by rw [← hp.2.1]; exact hk
  have h1 := toN_ok hp.1 hk' hb
  -- toN k back is the cell from which k comes
  have hj : toN q (toN q k (backP g.1 g.2)) g = k := by
    obtain ⟨n, hn, e⟩ := sym_num (f := g.2) hg
    have e : sym8 n = g := e
    have hbb : backP (backP g.1 g.2).1 (backP g.1 g.2).2 = g := by
      rw [← e]
      exact (show ∀ n : Nat, n < 8 → backP (backP (sym8 n).1 (sym8 n).2).1 (backP (sym8 n).1 (sym8 n).2).2 = sym8 n by decide) n hn
    have := toN_back hp.1 hk' hb
    rwa [hbb] at this
  have hlt : toN q k (backP g.1 g.2) < xs.length := by rw [hp.2.1]; exact h1.2
  refine ⟨_, hlt, hj, ?_⟩
  have := act_at hp hg hlt
  rwa [hj] at this
theorem act_pic {q : Nat} {xs : List Col} {g : Int × Bool} (hp : Pic q xs) (hg : inB g.1 0 3 = true) : Pic q (actL g.1 g.2 ((q : Int) + 1) xs).2 ∧ (actL g.1 g.2 ((q : Int) + 1) xs).1 = (q : Int) + 1 := by
  have hl : (actL g.1 g.2 ((q : Int) + 1) xs).2.length = xs.length := by rw [actL_eq hp hg]; exact actUp_len _ _ _ _ _
  refine ⟨⟨hp.1, by rw [hl]; exact hp.2.1, all_yes fun i x hx => ?_⟩, by rw [actL_eq hp hg]⟩
  have hi : i < xs.length := by have := (List.getElem?_eq_some_iff.1 hx).1; omega
  obtain ⟨j, hj, _, e⟩ := act_at' hp hg hi
  rw [hx] at e
  exact List.all_eq_true.1 hp.2.2 x (List.mem_of_getElem? e.symm)

/-! ### colours that are the same -/
def keyC (c : Col) : Int × Int × Int := (key c.1, key c.2.1, key c.2.2)
def atK (xs : List Col) (k : Nat) : Option (Int × Int × Int) := (xs[k]?).map keyC
theorem colEq_key {x y : Col} (hx : colB x = true) (hy : colB y = true) : colEqB x y = decide (keyC x = keyC y) := by
  unfold colB at hx hy
  simp only [Bool.and_eq_true] at hx hy
  unfold colEqB keyC
  rw [eqB_fin (part_fin hx.1) (part_fin hy.1), eqB_fin (part_fin hx.2.1) (part_fin hy.2.1), eqB_fin (part_fin hx.2.2) (part_fin hy.2.2)]
  rw [Bool.eq_iff_iff]
  simp [and_assoc]
theorem same_iff {xs ys : List Col} (hx : xs.all colB = true) (hy : ys.all colB = true) (hl : xs.length = ys.length) : sameCells xs ys = true ↔ ∀ k, k < xs.length → atK xs k = atK ys k := by
  constructor
  · intro h k hk
    have h1 : xs[k]? = some xs[k] := List.getElem?_eq_getElem hk
    have h2 : ys[k]? = some (ys[k]'(by omega)) := List.getElem?_eq_getElem (by omega)
    unfold atK
    rw [h1, h2]
    cases hq : colEqB xs[k] (ys[k]'(by omega))
    · rw [sameCells_no h1 h2 hq] at h; cases h
    · rw [colEq_key (List.all_eq_true.1 hx _ (List.mem_of_getElem? h1)) (List.all_eq_true.1 hy _ (List.mem_of_getElem? h2))] at hq
      simp only [decide_eq_true_eq] at hq
      simp [hq]
  · intro h
    refine sameCells_yes hl fun i x y h1 h2 => ?_
    rw [colEq_key (List.all_eq_true.1 hx _ (List.mem_of_getElem? h1)) (List.all_eq_true.1 hy _ (List.mem_of_getElem? h2))]
    have := h i (List.getElem?_eq_some_iff.1 h1).1
    unfold atK at this
    rw [h1, h2] at this
    simpa using this
theorem sameP_iff {s : Int} {xs ys : List Col} (hx : xs.all colB = true) (hy : ys.all colB = true) (hl : xs.length = ys.length) : sameP s xs s ys = true ↔ ∀ k, k < xs.length → atK xs k = atK ys k := by
  unfold sameP
  rw [beq_self_eq_true, Bool.true_and]
  exact same_iff hx hy hl

/-! ### what keeps a picture -/
theorem keep_iff {q : Nat} {xs : List Col} {g : Int × Bool} (hp : Pic q xs) (hg : inB g.1 0 3 = true) : keepB ((q : Int) + 1) xs g = true ↔ ∀ k, k < xs.length → atK xs (toN q k g) = atK xs k := by
  obtain ⟨h1, h2⟩ := act_pic hp hg
  have hl : (actL g.1 g.2 ((q : Int) + 1) xs).2.length = xs.length := by rw [h1.2.1, hp.2.1]
  unfold keepB
  rw [h2, sameP_iff h1.2.2 hp.2.2 hl]
  constructor
  · intro h k hk
    have h3 := (toN_ok hp.1 (by rw [← hp.2.1]; exact hk) hg).2
    rw [← hp.2.1] at h3
    rw [← h _ (by rw [hl]; exact h3)]
    unfold atK
    rw [act_at hp hg hk]
  · intro h k hk
    rw [hl] at hk
    obtain ⟨j, hj, e, e2⟩ := act_at' hp hg hk
    rw [← e, h j hj]
    unfold atK
    rw [e, e2]
theorem keep_id {q : Nat} {xs : List Col} (hp : Pic q xs) : keepB ((q : Int) + 1) xs (0, false) = true := by
  rw [keep_iff hp (by decide)]
  intro k hk
  rw [toN_id hp.1 (by rw [← hp.2.1]; exact hk)]
theorem keep_then {q : Nat} {xs : List Col} {g h : Int × Bool} (hp : Pic q xs) (hg : inB g.1 0 3 = true) (hh : inB h.1 0 3 = true) (k1 : keepB ((q : Int) + 1) xs g = true) (k2 : keepB ((q : Int) + 1) xs h = true) : keepB ((q : Int) + 1) xs (thenP g.1 g.2 h.1 h.2) = true := by
  rw [keep_iff hp hg] at k1
  rw [keep_iff hp hh] at k2
  rw [keep_iff hp (then_in hg hh)]
  intro k hk
  have hk' : k < (q + 1) * (q + 1) := by rw [← hp.2.1]; exact hk
  rw [← toN_then hp.1 hk' hg hh, k2 _ (by rw [hp.2.1]; exact (toN_ok hp.1 hk' hg).2), k1 k hk]
end Go.Proofs.Ytchkcleenmoajaa
