/- SymPS · CellsP · PicP · MirP · MirS · PicL · TakeL · InvL · SpreadS · DrawPic · TakenL · Open -/
import Derived.Test.YthlphmojldbpkaaGreatM38
import Derived.Test.YthlphmojldbpkaaGreatM1
import Derived.Deep.RegionLaw
import Derived.Test.YthlphmojldbpkaaGreatM36
import Derived.Test.YthlphmojldbpkaaGreatM0
import Derived.Laws.StructEq
import Derived.Test.YthlphmojldbpkaaGreatM23
import Derived.Test.YthlphmojldbpkaaGreatM3
import Derived.Test.YthlphmojldbpkaaGreatM37
import Derived.ProofKit
import Derived.ChangeOld
import Derived.Deep.Slices
import Derived.Lib.SmallJoins

/- SymsOfPicture, the reference's. -/
namespace Go.Proofs.YthlphmojldbpkaaGreat
open Go.RowKit
attribute [local go_sem] run_store_float run_store_complex

end Go.Proofs.YthlphmojldbpkaaGreat

/- Cells and the symmetries that take them to cells: plain arithmetic. No program. -/
namespace Go.Proofs.YthlphmojldbpkaaGreat

def cellOk (s k g : Nat) : Bool :=
  let q := cellI (s + 1) k (sym8 g).1 (sym8 g).2
  okCell (s + 1) q && decide (ptI (s + 1) q = aI (sym8 g).1 (sym8 g).2 (ptI (s + 1) k)) && decide (cellI (s + 1) q (backP (sym8 g).1 (sym8 g).2).1 (backP (sym8 g).1 (sym8 g).2).2 = k)
def cellsOk : Bool := (List.range 8).all fun s => (List.range ((s + 1) * (s + 1))).all fun k => (List.range 8).all fun g => cellOk s k g
theorem cellsOk_true : cellsOk = true := by decide +kernel
theorem cells_all (s k g : Nat) (hs : s < 8) (hk : k < (s + 1) * (s + 1)) (hg : g < 8) :
    okCell (s + 1) (cellI (s + 1) k (sym8 g).1 (sym8 g).2) = true ∧ ptI (s + 1) (cellI (s + 1) k (sym8 g).1 (sym8 g).2) = aI (sym8 g).1 (sym8 g).2 (ptI (s + 1) k) ∧
    cellI (s + 1) (cellI (s + 1) k (sym8 g).1 (sym8 g).2) (backP (sym8 g).1 (sym8 g).2).1 (backP (sym8 g).1 (sym8 g).2).2 = k := by
  have h := cellsOk_true
  unfold cellsOk at h
  have h1 := List.all_eq_true.1 h s (List.mem_range.2 hs)
  have h2 := List.all_eq_true.1 h1 k (List.mem_range.2 hk)
  have h3 := List.all_eq_true.1 h2 g (List.mem_range.2 hg)
  simp only [cellOk, Bool.and_eq_true, decide_eq_true_eq] at h3
  exact ⟨h3.1.1, h3.1.2, h3.2⟩

theorem then_all : ∀ g : Nat, g < 8 → ∀ h : Nat, h < 8 → ∀ p : Int × Int,
    aI (sym8 h).1 (sym8 h).2 (aI (sym8 g).1 (sym8 g).2 p) = aI (thenP (sym8 g).1 (sym8 g).2 (sym8 h).1 (sym8 h).2).1 (thenP (sym8 g).1 (sym8 g).2 (sym8 h).1 (sym8 h).2).2 p := by
  intro g hg h hh p
  obtain ⟨x, y⟩ := p
  have e : ∀ g : Nat, g < 8 → g = 0 ∨ g = 1 ∨ g = 2 ∨ g = 3 ∨ g = 4 ∨ g = 5 ∨ g = 6 ∨ g = 7 := by omega
  rcases e g hg with rfl | rfl | rfl | rfl | rfl | rfl | rfl | rfl <;> rcases e h hh with rfl | rfl | rfl | rfl | rfl | rfl | rfl | rfl <;>
    simp [sym8, aI, thenP, thenT, inB, rIN, rI]

theorem back_ok : ∀ g : Nat, g < 8 → inB (backP (sym8 g).1 (sym8 g).2).1 0 3 = true := by decide
theorem then_ok : ∀ g : Nat, g < 8 → ∀ h : Nat, h < 8 → inB (thenP (sym8 g).1 (sym8 g).2 (sym8 h).1 (sym8 h).2).1 0 3 = true := by decide

theorem okCell_of (s k : Nat) (hs : s < 8) (hk : k < (s + 1) * (s + 1)) : okCell (s + 1) k = true := by
  have h1 : ((k : Nat) : Int) < ((s + 1 : Nat) : Int) * ((s + 1 : Nat) : Int) := by
    have h : ((k : Nat) : Int) < (((s + 1) * (s + 1) : Nat) : Int) := Int.ofNat_lt.2 hk
    rwa [Int.natCast_mul] at h
  have e : ((s + 1 : Nat) : Int) = (s : Int) + 1 := by omega
  rw [e] at h1
  simp only [okCell, inB, Bool.and_eq_true, decide_eq_true_eq]
  exact ⟨⟨by omega, by omega⟩, by omega, by omega⟩

end Go.Proofs.YthlphmojldbpkaaGreat

/- Pictures in plain Lean: acting cell by cell, the same pictures, what keeps a picture. -/
namespace Go.Proofs.YthlphmojldbpkaaGreat

theorem sym_num {t : Int} {f : Bool} (h : inB t 0 3 = true) : ∃ g, g < 8 ∧ sym8 g = (t, f) := by
  obtain ⟨h0, h3⟩ := inB_true h
  have e : t = 0 ∨ t = 1 ∨ t = 2 ∨ t = 3 := by omega
  rcases e with rfl | rfl | rfl | rfl <;> cases f
  · exact ⟨0, by decide, by decide⟩
  · exact ⟨4, by decide, by decide⟩
  · exact ⟨1, by decide, by decide⟩
  · exact ⟨5, by decide, by decide⟩
  · exact ⟨2, by decide, by decide⟩
  · exact ⟨6, by decide, by decide⟩
  · exact ⟨3, by decide, by decide⟩
  · exact ⟨7, by decide, by decide⟩

/-- a picture of size q + 1 -/
def Pic (q : Nat) (xs : List Col) : Prop := q < 8 ∧ xs.length = (q + 1) * (q + 1) ∧ xs.all colB = true
theorem pic_of {s : Int} {xs : List Col} (h : pictB s xs = true) : ∃ q : Nat, s = (q : Int) + 1 ∧ Pic q xs := by
  unfold pictB at h
  simp only [Bool.and_eq_true, beq_iff_eq] at h
  obtain ⟨h1, h2, h3⟩ := h
  obtain ⟨b1, b2⟩ := inB_true h1
  refine ⟨(s - 1).toNat, by omega, by omega, ?_, h3⟩
  have e : s = (((s - 1).toNat + 1 : Nat) : Int) := by omega
  generalize (s - 1).toNat = q at e
  subst e
  rw [← Int.natCast_mul] at h2
  exact Int.ofNat.inj h2
theorem pic_ok {q : Nat} {xs : List Col} (h : Pic q xs) : pictB ((q : Int) + 1) xs = true := by
  obtain ⟨h1, h2, h3⟩ := h
  unfold pictB inB
  simp only [Bool.and_eq_true, beq_iff_eq, decide_eq_true_eq]
  refine ⟨⟨by omega, by omega⟩, ?_, h3⟩
  rw [h2, Int.natCast_mul]
  have e : ((q + 1 : Nat) : Int) = (q : Int) + 1 := by omega
  rw [e]

def toN (q k : Nat) (g : Int × Bool) : Nat := (cellI ((q : Int) + 1) k g.1 g.2).toNat
/-- the cell is one of the picture, and no other number -/
theorem toN_ok {q k : Nat} {g : Int × Bool} (hq : q < 8) (hk : k < (q + 1) * (q + 1)) (_hg : inB g.1 0 3 = true) : cellI ((q : Int) + 1) k g.1 g.2 = (toN q k g : Nat) ∧ toN q k g < (q + 1) * (q + 1) := by
  have h := cellI_bd (okCell_of q k hq hk) g.1 g.2
  have e : toN q k g = (cellI ((q : Int) + 1) k g.1 g.2).toNat := rfl
  refine ⟨by omega, ?_⟩
  have h2 : (toN q k g : Int) < (((q + 1) * (q + 1) : Nat) : Int) := by
    rw [Int.natCast_mul]
    have e2 : ((q + 1 : Nat) : Int) = (q : Int) + 1 := by omega
    rw [e2]; omega
  omega
theorem toN_back {q k : Nat} {g : Int × Bool} (hq : q < 8) (hk : k < (q + 1) * (q + 1)) (hg : inB g.1 0 3 = true) : toN q (toN q k g) (backP g.1 g.2) = k := by
  obtain ⟨n, hn, e⟩ := sym_num (f := g.2) hg
  have e : sym8 n = g := e
  have h := (cells_all q k n hq hk hn).2.2
  rw [e] at h
  have h1 := (toN_ok hq hk hg).1
  rw [h1] at h
  unfold toN at h ⊢
  rw [h]; simp
theorem toN_then {q k : Nat} {g h : Int × Bool} (hq : q < 8) (hk : k < (q + 1) * (q + 1)) (hg : inB g.1 0 3 = true) (hh : inB h.1 0 3 = true) : toN q (toN q k g) h = toN q k (thenP g.1 g.2 h.1 h.2) := by
  obtain ⟨n, hn, e⟩ := sym_num (f := g.2) hg
  obtain ⟨m, hm, e'⟩ := sym_num (f := h.2) hh
  have e : sym8 n = g := e
  have e' : sym8 m = h := e'
  obtain ⟨h1, h2, h3⟩ := cells_all q k n hq hk hn
  have ht := then_all n hn m hm (ptI ((q : Int) + 1) k)
  rw [e, e'] at ht
  rw [e] at h2
  have h4 := (toN_ok hq hk hg).1
  have h5 : cellI ((q : Int) + 1) (toN q k g) h.1 h.2 = cellI ((q : Int) + 1) k (thenP g.1 g.2 h.1 h.2).1 (thenP g.1 g.2 h.1 h.2).2 := by
    rw [← h4]
    unfold cellI
    rw [← ht]
    congr 2
  unfold toN at h5 ⊢
  rw [h5]
theorem back_in {g : Int × Bool} (hg : inB g.1 0 3 = true) : inB (backP g.1 g.2).1 0 3 = true := by
  obtain ⟨n, hn, e⟩ := sym_num (f := g.2) hg
  have e : sym8 n = g := e
  have := back_ok n hn
  rwa [e] at this
theorem then_in {g h : Int × Bool} (hg : inB g.1 0 3 = true) (hh : inB h.1 0 3 = true) : inB (thenP g.1 g.2 h.1 h.2).1 0 3 = true := by
  obtain ⟨n, hn, e⟩ := sym_num (f := g.2) hg
  obtain ⟨m, hm, e'⟩ := sym_num (f := h.2) hh
  have e : sym8 n = g := e
  have e' : sym8 m = h := e'
  have := then_ok n hn m hm
  rwa [e, e'] at this
theorem toN_inj {q k k' : Nat} {g : Int × Bool} (hq : q < 8) (hk : k < (q + 1) * (q + 1)) (hk' : k' < (q + 1) * (q + 1)) (hg : inB g.1 0 3 = true) (h : toN q k g = toN q k' g) : k = k' := by
  rw [← toN_back hq hk hg, ← toN_back hq hk' hg, h]
theorem toN_id {q k : Nat} (hq : q < 8) (hk : k < (q + 1) * (q + 1)) : toN q k (0, false) = k := by
  have h0 : inB 0 0 3 = true := by decide
  have h1 := toN_back (g := (0, false)) hq hk h0
  have h2 := toN_then (g := (0, false)) (h := (0, false)) hq hk h0 h0
  have e : thenP 0 false 0 false = (0, false) := by decide
  dsimp only at h2
  rw [e] at h2
  exact toN_inj hq (toN_ok hq hk h0).2 hk h0 h2

/-! ### acting -/
theorem actUp_at {q : Nat} {xs : List Col} {g : Int × Bool} (hp : Pic q xs) (hg : inB g.1 0 3 = true) : ∀ m, m ≤ xs.length → ∀ k, k < m → (actUp ((q : Int) + 1) g.1 g.2 xs m)[toN q k g]? = xs[k]? := by
  obtain ⟨hq, hl, _⟩ := hp
  intro m
  induction m with
  | zero => intro _ k hk; omega
  | succ m ih =>
    intro hm k hk
    have hx : xs[m]? = some xs[m] := List.getElem?_eq_getElem (by omega)
    rw [actUp_succ hx]
    have e : (cellI ((q : Int) + 1) m g.1 g.2).toNat = toN q m g := rfl
    rw [e]
    by_cases h : k = m
    · subst h
      rw [List.getElem?_set_self (by rw [actUp_len]; have := (toN_ok (k := k) hq (by omega) hg).2; omega), hx]
    · rw [List.getElem?_set_ne (fun e => h (toN_inj hq (by omega) (by omega) hg e.symm))]
      exact ih (by omega) k (by omega)
theorem actL_eq {q : Nat} {xs : List Col} {g : Int × Bool} (hp : Pic q xs) (hg : inB g.1 0 3 = true) : actL g.1 g.2 ((q : Int) + 1) xs = ((q : Int) + 1, actUp ((q : Int) + 1) g.1 g.2 xs xs.length) := by
  unfold actL
  rw [hg, pic_ok hp]
  rfl
theorem act_at {q k : Nat} {xs : List Col} {g : Int × Bool} (hp : Pic q xs) (hg : inB g.1 0 3 = true) (hk : k < xs.length) : (actL g.1 g.2 ((q : Int) + 1) xs).2[toN q k g]? = xs[k]? := by
  rw [actL_eq hp hg]
  exact actUp_at hp hg _ (Nat.le_refl _) k hk
/-- read from behind -/
theorem act_at' {q k : Nat} {xs : List Col} {g : Int × Bool} (hp : Pic q xs) (hg : inB g.1 0 3 = true) (hk : k < xs.length) : ∃ j, j < xs.length ∧ toN q j g = k ∧ (actL g.1 g.2 ((q : Int) + 1) xs).2[k]? = xs[j]? := by
  have hb := back_in hg
  have hk' : k < (q + 1) * (q + 1) := by rw [← hp.2.1]; exact hk
  have h1 := toN_ok hp.1 hk' hb
  -- toN k back is the cell from which k comes
  have hj : toN q (toN q k (backP g.1 g.2)) g = k := by
    obtain ⟨n, hn, e⟩ := sym_num (f := g.2) hg
    have e : sym8 n = g := e
    have hbb : backP (backP g.1 g.2).1 (backP g.1 g.2).2 = g := by
      rw [← e]
      exact (show ∀ n : Nat, n < 8 → backP (backP (sym8 n).1 (sym8 n).2).1 (backP (sym8 n).1 (sym8 n).2).2 = sym8 n by decide) n hn
    have := toN_back hp.1 hk' hb
    rwa [hbb] at this
  have hlt : toN q k (backP g.1 g.2) < xs.length := by rw [hp.2.1]; exact h1.2
  refine ⟨_, hlt, hj, ?_⟩
  have := act_at hp hg hlt
  rwa [hj] at this
theorem act_pic {q : Nat} {xs : List Col} {g : Int × Bool} (hp : Pic q xs) (hg : inB g.1 0 3 = true) : Pic q (actL g.1 g.2 ((q : Int) + 1) xs).2 ∧ (actL g.1 g.2 ((q : Int) + 1) xs).1 = (q : Int) + 1 := by
  have hl : (actL g.1 g.2 ((q : Int) + 1) xs).2.length = xs.length := by rw [actL_eq hp hg]; exact actUp_len _ _ _ _ _
  refine ⟨⟨hp.1, by rw [hl]; exact hp.2.1, all_yes fun i x hx => ?_⟩, by rw [actL_eq hp hg]⟩
  have hi : i < xs.length := by have := (List.getElem?_eq_some_iff.1 hx).1; omega
  obtain ⟨j, hj, _, e⟩ := act_at' hp hg hi
  rw [hx] at e
  exact List.all_eq_true.1 hp.2.2 x (List.mem_of_getElem? e.symm)

/-! ### colours that are the same -/
def keyC (c : Col) : Int × Int × Int := (key c.1, key c.2.1, key c.2.2)
def atK (xs : List Col) (k : Nat) : Option (Int × Int × Int) := (xs[k]?).map keyC
theorem colEq_key {x y : Col} (hx : colB x = true) (hy : colB y = true) : colEqB x y = decide (keyC x = keyC y) := by
  unfold colB at hx hy
  simp only [Bool.and_eq_true] at hx hy
  unfold colEqB keyC
  rw [eqB_fin (part_fin hx.1) (part_fin hy.1), eqB_fin (part_fin hx.2.1) (part_fin hy.2.1), eqB_fin (part_fin hx.2.2) (part_fin hy.2.2)]
  rw [Bool.eq_iff_iff]
  simp [and_assoc]
theorem same_iff {xs ys : List Col} (hx : xs.all colB = true) (hy : ys.all colB = true) (hl : xs.length = ys.length) : sameCells xs ys = true ↔ ∀ k, k < xs.length → atK xs k = atK ys k := by
  constructor
  · intro h k hk
    have h1 : xs[k]? = some xs[k] := List.getElem?_eq_getElem hk
    have h2 : ys[k]? = some (ys[k]'(by omega)) := List.getElem?_eq_getElem (by omega)
    unfold atK
    rw [h1, h2]
    cases hq : colEqB xs[k] (ys[k]'(by omega))
    · rw [sameCells_no h1 h2 hq] at h; cases h
    · rw [colEq_key (List.all_eq_true.1 hx _ (List.mem_of_getElem? h1)) (List.all_eq_true.1 hy _ (List.mem_of_getElem? h2))] at hq
      simp only [decide_eq_true_eq] at hq
      simp [hq]
  · intro h
    refine sameCells_yes hl fun i x y h1 h2 => ?_
    rw [colEq_key (List.all_eq_true.1 hx _ (List.mem_of_getElem? h1)) (List.all_eq_true.1 hy _ (List.mem_of_getElem? h2))]
    have := h i (List.getElem?_eq_some_iff.1 h1).1
    unfold atK at this
    rw [h1, h2] at this
    simpa using this
theorem sameP_iff {s : Int} {xs ys : List Col} (hx : xs.all colB = true) (hy : ys.all colB = true) (hl : xs.length = ys.length) : sameP s xs s ys = true ↔ ∀ k, k < xs.length → atK xs k = atK ys k := by
  unfold sameP
  rw [beq_self_eq_true, Bool.true_and]
  exact same_iff hx hy hl

/-! ### what keeps a picture -/
theorem keep_iff {q : Nat} {xs : List Col} {g : Int × Bool} (hp : Pic q xs) (hg : inB g.1 0 3 = true) : keepB ((q : Int) + 1) xs g = true ↔ ∀ k, k < xs.length → atK xs (toN q k g) = atK xs k := by
  obtain ⟨h1, h2⟩ := act_pic hp hg
  have hl : (actL g.1 g.2 ((q : Int) + 1) xs).2.length = xs.length := by rw [h1.2.1, hp.2.1]
  unfold keepB
  rw [h2, sameP_iff h1.2.2 hp.2.2 hl]
  constructor
  · intro h k hk
    have h3 := (toN_ok hp.1 (by rw [← hp.2.1]; exact hk) hg).2
    rw [← hp.2.1] at h3
    rw [← h _ (by rw [hl]; exact h3)]
    unfold atK
    rw [act_at hp hg hk]
  · intro h k hk
    rw [hl] at hk
    obtain ⟨j, hj, e, e2⟩ := act_at' hp hg hk
    rw [← e, h j hj]
    unfold atK
    rw [e, e2]
theorem keep_id {q : Nat} {xs : List Col} (hp : Pic q xs) : keepB ((q : Int) + 1) xs (0, false) = true := by
  rw [keep_iff hp (by decide)]
  intro k hk
  rw [toN_id hp.1 (by rw [← hp.2.1]; exact hk)]
theorem keep_then {q : Nat} {xs : List Col} {g h : Int × Bool} (hp : Pic q xs) (hg : inB g.1 0 3 = true) (hh : inB h.1 0 3 = true) (k1 : keepB ((q : Int) + 1) xs g = true) (k2 : keepB ((q : Int) + 1) xs h = true) : keepB ((q : Int) + 1) xs (thenP g.1 g.2 h.1 h.2) = true := by
  rw [keep_iff hp hg] at k1
  rw [keep_iff hp hh] at k2
  rw [keep_iff hp (then_in hg hh)]
  intro k hk
  have hk' : k < (q + 1) * (q + 1) := by rw [← hp.2.1]; exact hk
  rw [← toN_then hp.1 hk' hg hh, k2 _ (by rw [hp.2.1]; exact (toN_ok hp.1 hk' hg).2), k1 k hk]
end Go.Proofs.YthlphmojldbpkaaGreat

/- '==' on symmetries; slices.Contains; MirrorsOfPicture, the program's. -/
namespace Go.Proofs.YthlphmojldbpkaaGreat
open Go.RowKit

/-- whether a list holds a symmetry -/
def inS (l : List (Int × Bool)) (g : Int × Bool) : Bool := l.contains g
/-- the last number below n that is fit, or st -/
def lastUp (ok : Nat → Bool) (st : Int) : Nat → Int
  | 0 => st
  | k + 1 => if ok k then (k : Int) else lastUp ok st k
theorem lastUp_yes {ok : Nat → Bool} {st : Int} {k : Nat} (h : ok k = true) : lastUp ok st (k + 1) = (k : Int) := by simp [lastUp, h]
theorem lastUp_no {ok : Nat → Bool} {st : Int} {k : Nat} (h : ok k = false) : lastUp ok st (k + 1) = lastUp ok st k := by simp [lastUp, h]
def okIn (l : List (Int × Bool)) (k : Nat) : Bool := (symsL (k : Int)).all (inS l)
def mirI (s : Int) (xs : List Col) : Int := if pictB s xs then lastUp (okIn (symsP s xs)) 0 4 else -1

end Go.Proofs.YthlphmojldbpkaaGreat

/- MirrorsOfPicture, the reference's; both are the same. -/
namespace Go.Proofs.YthlphmojldbpkaaGreat
open Go.RowKit

def okA (s : Int) (xs : List Col) (k : Nat) : Bool := pictB s xs && (symsL (k : Int)).all (keepB s xs)
def mirP (s : Int) (xs : List Col) : Int := lastUp (okA s xs) (-1) 4

theorem symsL_in3 : ∀ k : Nat, k < 4 → ∀ g ∈ symsL (k : Int), g ∈ symsL 3 := by decide
theorem inS_iff {l : List (Int × Bool)} {g : Int × Bool} : inS l g = true ↔ g ∈ l := by unfold inS; exact List.contains_iff_mem
theorem okIn_eq {s : Int} {xs : List Col} (h : pictB s xs = true) {k : Nat} (hk : k < 4) : okIn (symsP s xs) k = okA s xs k := by
  unfold okIn okA symsP
  rw [h, Bool.true_and, if_pos rfl, Bool.eq_iff_iff, List.all_eq_true, List.all_eq_true]
  constructor
  · intro h1 g hg
    exact (List.mem_filter.1 (inS_iff.1 (h1 g hg))).2
  · intro h1 g hg
    exact inS_iff.2 (List.mem_filter.2 ⟨symsL_in3 k hk g hg, h1 g hg⟩)
theorem okA_zero {s : Int} {xs : List Col} (h : pictB s xs = true) : okA s xs 0 = true := by
  obtain ⟨q, rfl, hp⟩ := pic_of h
  unfold okA
  rw [h, Bool.true_and, show symsL ((0 : Nat) : Int) = [(0, false)] by decide, List.all_cons, keep_id hp]
  rfl
theorem mirI_eq (s : Int) (xs : List Col) : mirI s xs = mirP s xs := by
  unfold mirI mirP
  cases h : pictB s xs
  · have e : ∀ k, okA s xs k = false := fun k => by unfold okA; rw [h]; rfl
    simp [lastUp, e]
  · rw [if_pos rfl]
    unfold lastUp lastUp lastUp lastUp lastUp
    rw [okIn_eq h (by omega), okIn_eq h (by omega), okIn_eq h (by omega), okIn_eq h (by omega), okA_zero h]
    rfl

end Go.Proofs.YthlphmojldbpkaaGreat

/- Pictures in plain Lean: acting one after the other; what keeps the acted picture. -/
namespace Go.Proofs.YthlphmojldbpkaaGreat

theorem mem_symsP {q : Nat} {xs : List Col} {g : Int × Bool} (hp : Pic q xs) : g ∈ symsP ((q : Int) + 1) xs ↔ g ∈ symsL 3 ∧ keepB ((q : Int) + 1) xs g = true := by
  unfold symsP
  rw [pic_ok hp, if_pos rfl, List.mem_filter]
end Go.Proofs.YthlphmojldbpkaaGreat

/- Pictures taken of turned glass: plain, by keys. -/
namespace Go.Proofs.YthlphmojldbpkaaGreat
open Go.RowKit

def stepsOk : Bool := stepsL.all fun st => finB st && (stpB st && (List.range 17).all fun k => reachB (mulB (fl ((k : Int) - 8)) st))
theorem stepsOk_true : stepsOk = true := by decide +kernel
theorem step_facts {st : Nat} (h : st ∈ stepsL) : finB st = true ∧ stpB st = true ∧ ∀ n : Int, -8 ≤ n → n ≤ 8 → reachB (mulB (fl n) st) = true := by
  have h1 := List.all_eq_true.1 stepsOk_true st h
  simp only [Bool.and_eq_true] at h1
  refine ⟨h1.1, h1.2.1, fun n n1 n2 => ?_⟩
  have h2 := List.all_eq_true.1 h1.2.2 (n + 8).toNat (List.mem_range.2 (by omega))
  have e : (((n + 8).toNat : Nat) : Int) - 8 = n := by omega
  rw [e] at h2
  exact h2
theorem fl_key {n : Int} (h1 : -8 ≤ n) (h2 : n ≤ 8) : key (fl (-n)) = -key (fl n) ∧ finB (fl n) = true := by
  obtain ⟨a1, _, _, a4, _⟩ := small_at n h1 h2
  have hf := reach_fin a4
  rw [← a1]
  exact ⟨(neg_key hf).1, hf⟩
def scaleZ (st : Nat) (p : Int × Int) : Int × Int := (key (mulK (key (fl p.1)) (key st)), key (mulK (key (fl p.2)) (key st)))
theorem scale_rI {st : Nat} {p : Int × Int} (h : Sm 8 p) : scaleZ st (rI p) = rI (scaleZ st p) := by
  obtain ⟨a, b, c, d⟩ := h
  unfold scaleZ rI
  dsimp only
  rw [(fl_key c d).1, mulK_neg]
theorem scale_rIN {st : Nat} {p : Int × Int} (h : Sm 8 p) : ∀ n, scaleZ st (rIN n p) = rIN n (scaleZ st p)
  | 0 => rfl
  | n + 1 => by show scaleZ st (rI (rIN n p)) = rI (rIN n _); rw [scale_rI (rIN_sm h n), scale_rIN h n]
theorem scale_aI {st : Nat} {p : Int × Int} (h : Sm 8 p) (t : Int) (f : Bool) : scaleZ st (aI t f p) = aI t f (scaleZ st p) := by
  unfold aI
  cases f
  · exact scale_rIN h _
  · simp only [if_true]
    obtain ⟨a, b, c, d⟩ := h
    rw [scale_rIN (p := (p.1, -p.2)) ⟨a, b, by dsimp only; omega, by dsimp only; omega⟩]
    unfold scaleZ
    dsimp only
    rw [(fl_key c d).1, mulK_neg]
theorem spot_facts {st : Nat} {s i : Int} (hst : st ∈ stepsL) (hc : okCell s i = true) : keyP (spotP st s i) = scaleZ st (ptI s i) ∧ pointB (spotP st s i).1 (spotP st s i).2 = true := by
  obtain ⟨s1, s2, _⟩ := okCell_bd hc
  obtain ⟨a, b, c, d⟩ := (ptI_sm hc).mono (c := 8) (by omega)
  obtain ⟨h1, _, h3⟩ := step_facts hst
  refine ⟨?_, ?_⟩
  · unfold keyP spotP scaleZ
    dsimp only
    rw [mul_keys (fl_key a b).2 h1, mul_keys (fl_key c d).2 h1]
  · unfold pointB spotP
    dsimp only
    rw [h3 _ a b, h3 _ c d]; rfl
/-- without mirrors a spot stays -/
theorem fold0_key {z : Pt} (h : pointB z.1 z.2 = true) : keyP (foldP 0 z).1 = keyP z ∧ finP (foldP 0 z).1 := by
  have hf : firstG 0 (keyP z) = some (0, false) := by unfold firstG; rw [syms0]; rfl
  rw [foldP_g h hf]
  exact actP_same h
theorem act_fin {t : Int} {f : Bool} {p : Pt} (ht : inB t 0 3 = true) (h : pointB p.1 p.2 = true) : keyP (actP t f p.1 p.2) = aI t f (keyP p) ∧ finP (actP t f p.1 p.2) := actP_key ht h
theorem take_turn {t : Int} {f : Bool} {q k st : Nat} {ls : List Sh} {light : Col} (ht : inB t 0 3 = true) (hq : q < 8) (hk : k < (q + 1) * (q + 1)) (hst : st ∈ stepsL) (hok : ls.all okSh = true) :
    takeC 0 ((q : Int) + 1) st (ls.map (actSh t f)) light (toN q k (t, f)) = takeC 0 ((q : Int) + 1) st ls light k := by
  obtain ⟨g, hg, e⟩ := sym_num (f := f) ht
  obtain ⟨c1, c2, _⟩ := cells_all q k g hq hk hg
  rw [e] at c1 c2
  dsimp only at c1 c2
  have c0 := okCell_of q k hq hk
  have hn := (toN_ok (q := q) (k := k) (g := (t, f)) hq hk ht).1
  dsimp only at hn
  rw [hn] at c1 c2
  obtain ⟨k1, k2⟩ := spot_facts hst c0
  obtain ⟨k3, k4⟩ := spot_facts hst c1
  obtain ⟨f1, f2⟩ := fold0_key k2
  obtain ⟨f3, f4⟩ := fold0_key k4
  have hsm := (ptI_sm c0).mono (c := 8) (by have := (okCell_bd c0).2.1; omega)
  have ek : keyP (foldP 0 (spotP st ((q : Int) + 1) (toN q k (t, f) : Nat))).1 = aI t f (keyP (foldP 0 (spotP st ((q : Int) + 1) k)).1) := by
    rw [f3, f1, k3, k1, c2, scale_aI hsm]
  unfold takeC
  refine seen_turn f2 f4 ek ls (ls.map (actSh t f)) (by simp) (fun i s s' hs hs' => ?_) light
  rw [List.getElem?_map, hs] at hs'
  injection hs' with hs'
  subst hs'
  obtain ⟨o1, o2, o3, _, _⟩ := okSh_parts (List.all_eq_true.1 hok s (List.mem_of_getElem? hs))
  obtain ⟨x1, x2⟩ := act_fin (f := f) ht o1
  obtain ⟨y1, y2⟩ := act_fin (f := f) ht o2
  obtain ⟨z1, z2⟩ := act_fin (f := f) ht o3
  exact ⟨⟨point_fin o1, point_fin o2, point_fin o3⟩, ⟨x2, y2, z2⟩, x1, y1, z1, rfl⟩
theorem actSh_ok {t : Int} {f : Bool} {s : Sh} (h : okSh s = true) : okSh (actSh t f s) = true := by
  obtain ⟨_, _, _, h4, h5⟩ := okSh_parts h
  unfold okSh actSh
  dsimp only
  rw [actP_point, actP_point, actP_point, h4, h5]; rfl
theorem turned_ok {t : Int} {f : Bool} {ls : List Sh} (h : ls.all okSh = true) : (ls.map (actSh t f)).all okSh = true := by
  rw [List.all_eq_true] at h ⊢
  intro x hx
  obtain ⟨s, hs, rfl⟩ := List.mem_map.1 hx
  exact actSh_ok (h s hs)
theorem take_pic {kind : Int} {q st : Nat} {ls : List Sh} {light : Col} (hq : q < 8) (hok : ls.all okSh = true) (hc : colB light = true) : Pic q (takeUp kind ((q : Int) + 1) st ls light ((q + 1) * (q + 1))) := by
  refine ⟨hq, takeUp_len _ _ _ _ _ _, ?_⟩
  rw [List.all_eq_true]
  intro x hx
  unfold takeUp at hx
  obtain ⟨i, _, rfl⟩ := List.mem_map.1 hx
  exact seen_col hok hc
theorem takeUp_at {kind s : Int} {st : Nat} {ls : List Sh} {light : Col} {N k : Nat} (hk : k < N) : (takeUp kind s st ls light N)[k]? = some (takeC kind s st ls light k) := by
  unfold takeUp
  rw [List.getElem?_map, List.getElem?_range hk]
  rfl
/-- what FnTurnedGlass asks -/
theorem turned_same {t : Int} {f : Bool} {q st : Nat} {ls : List Sh} {light : Col} (ht : inB t 0 3 = true) (hq : q < 8) (hst : st ∈ stepsL) (hok : ls.all okSh = true) (hc : colB light = true) :
    sameP ((q : Int) + 1) (takeUp 0 ((q : Int) + 1) st (ls.map (actSh t f)) light ((q + 1) * (q + 1))) (actL t f ((q : Int) + 1) (takeUp 0 ((q : Int) + 1) st ls light ((q + 1) * (q + 1)))).1 (actL t f ((q : Int) + 1) (takeUp 0 ((q : Int) + 1) st ls light ((q + 1) * (q + 1)))).2 = true := by
  have hp := take_pic (kind := 0) (st := st) hq hok hc
  have hp' := take_pic (kind := 0) (st := st) hq (turned_ok (t := t) (f := f) hok) hc
  obtain ⟨a1, a2⟩ := act_pic (g := (t, f)) hp ht
  dsimp only at a1 a2
  rw [a2]
  refine (sameP_iff hp'.2.2 a1.2.2 (by rw [hp'.2.1, a1.2.1])).2 (fun k hk => ?_)
  rw [takeUp_len] at hk
  obtain ⟨j, hj, e1, e2⟩ := act_at' (g := (t, f)) hp ht (k := k) (by rw [takeUp_len]; exact hk)
  rw [takeUp_len] at hj
  dsimp only at e2
  unfold atK
  rw [e2, takeUp_at hk, takeUp_at hj, ← e1, take_turn ht hq hj hst hok]
end Go.Proofs.YthlphmojldbpkaaGreat

/- What the symmetries of mirrors leave: two points of a wedge with the same images are the same. -/
namespace Go.Proofs.YthlphmojldbpkaaGreat
open Go.RowKit

/-- what the symmetries of mirrors leave -/
def Inv (kind : Int) (p q : Int × Int) : Prop :=
  if kind = 0 then p = q else if kind = 1 then p.1 = q.1 ∧ p.2.natAbs = q.2.natAbs
  else if kind = 2 then p.1.natAbs = q.1.natAbs ∧ p.2.natAbs = q.2.natAbs
  else (p.1.natAbs = q.1.natAbs ∧ p.2.natAbs = q.2.natAbs) ∨ (p.1.natAbs = q.2.natAbs ∧ p.2.natAbs = q.1.natAbs)
theorem inv0 {p q : Int × Int} : Inv 0 p q ↔ p = q := by unfold Inv; simp
theorem inv1 {a b : Int} {q : Int × Int} : Inv 1 (a, b) q ↔ a = q.1 ∧ b.natAbs = q.2.natAbs := by unfold Inv; simp
theorem inv2 {a b : Int} {q : Int × Int} : Inv 2 (a, b) q ↔ a.natAbs = q.1.natAbs ∧ b.natAbs = q.2.natAbs := by unfold Inv; simp
theorem inv3 {a b : Int} {q : Int × Int} : Inv 3 (a, b) q ↔ (a.natAbs = q.1.natAbs ∧ b.natAbs = q.2.natAbs) ∨ (a.natAbs = q.2.natAbs ∧ b.natAbs = q.1.natAbs) := by unfold Inv; simp
theorem inv_step {kind : Int} (hk : inB kind 0 3 = true) {g : Int × Bool} (hg : g ∈ symsL kind) {p q : Int × Int} (h : Inv kind p q) : Inv kind (aI g.1 g.2 p) q := by
  obtain ⟨x, y⟩ := p
  rcases kinds hk with rfl | rfl | rfl | rfl
  · rw [syms0] at hg
    simp only [List.mem_cons, List.not_mem_nil, or_false] at hg
    subst hg
    exact h
  · rw [syms1] at hg
    simp only [List.mem_cons, List.not_mem_nil, or_false] at hg
    rw [inv1] at h
    rcases hg with rfl | rfl <;> dsimp only <;> rw [show ∀ f, aI 0 f (x, y) = (x, if f then -y else y) from fun f => rfl] <;> rw [inv1] <;> simp <;> omega
  · rw [syms2] at hg
    simp only [List.mem_cons, List.not_mem_nil, or_false] at hg
    rw [inv2] at h
    rcases hg with rfl | rfl | rfl | rfl <;> dsimp only <;> simp only [a00, a20, a01, a21] <;> rw [inv2] <;> omega
  · rw [syms3] at hg
    simp only [List.mem_cons, List.not_mem_nil, or_false] at hg
    rw [inv3] at h
    rcases hg with rfl | rfl | rfl | rfl | rfl | rfl | rfl | rfl <;> dsimp only <;> simp only [a00, a10, a20, a30, a01, a11, a21, a31] <;> rw [inv3] <;> omega
theorem inv_refl {kind : Int} (hk : inB kind 0 3 = true) (p : Int × Int) : Inv kind p p := by
  obtain ⟨x, y⟩ := p
  rcases kinds hk with rfl | rfl | rfl | rfl
  · exact inv0.2 rfl
  · exact inv1.2 ⟨rfl, rfl⟩
  · exact inv2.2 ⟨rfl, rfl⟩
  · exact inv3.2 (.inl ⟨rfl, rfl⟩)
/-- two points of a wedge that have the same images are the same -/
theorem inv_side {kind : Int} (hk : inB kind 0 3 = true) {p q r : Int × Int} (hp : sideI kind p = true) (hq : sideI kind q = true) (h1 : Inv kind p r) (h2 : Inv kind q r) : p = q := by
  obtain ⟨x, y⟩ := p
  obtain ⟨a, b⟩ := q
  rcases kinds hk with rfl | rfl | rfl | rfl
  · rw [inv0] at h1 h2
    rw [h1, h2]
  · rw [inv1] at h1 h2
    simp [sideI] at hp hq
    rw [Prod.mk.injEq]; omega
  · rw [inv2] at h1 h2
    simp [sideI] at hp hq
    rw [Prod.mk.injEq]; omega
  · rw [inv3] at h1 h2
    simp [sideI] at hp hq
    rw [Prod.mk.injEq]; omega
end Go.Proofs.YthlphmojldbpkaaGreat

/- SpreadPicture, the reference's. -/
namespace Go.Proofs.YthlphmojldbpkaaGreat
open Go.RowKit
attribute [local go_sem] run_store_float run_store_complex

end Go.Proofs.YthlphmojldbpkaaGreat

/- The draw of a picture. -/
namespace Go.Proofs.YthlphmojldbpkaaGreat
open Go.RowKit
attribute [local go_sem] run_store_float run_store_complex

theorem spread_pic {q : Nat} {xs : List Col} {kk : Nat} (hp : Pic q xs) (hk : kk < 4) : spreadL (kk : Int) ((q : Int) + 1) xs = ((q : Int) + 1, spreadUp (kk : Int) ((q : Int) + 1) xs xs.length) ∧ Pic q (spreadUp (kk : Int) ((q : Int) + 1) xs xs.length) := by
  have h1 : inB (kk : Int) 0 3 = true := by unfold inB; simp; omega
  refine ⟨by unfold spreadL; rw [h1, pic_ok hp]; rfl, hp.1, by rw [spreadUp_len]; exact hp.2.1, all_yes fun i x hx => ?_⟩
  unfold spreadUp at hx
  have hi : i < xs.length := by have := (List.getElem?_eq_some_iff.1 hx).1; simpa using this
  rw [List.getElem?_map, List.getElem?_range hi] at hx
  simp only [Option.map_some, Option.some.injEq] at hx
  have hb := firstI_bd (kind := (kk : Int)) (okCell_of q i hp.1 (by rw [← hp.2.1]; exact hi))
  have hj : (firstI (kk : Int) ((q : Int) + 1) (i : Int)).toNat < xs.length := by omega
  rw [List.getD_eq_getElem?_getD, List.getElem?_eq_getElem hj] at hx
  simp only [Option.getD_some] at hx
  rw [← hx]
  exact List.all_eq_true.1 hp.2.2 _ (List.getElem_mem _)

end Go.Proofs.YthlphmojldbpkaaGreat

/- A picture taken between mirrors has the symmetries of the mirrors: plain, by keys. -/
namespace Go.Proofs.YthlphmojldbpkaaGreat
open Go.RowKit

/-- the spot, folded, is the same for all cells that the mirrors show -/
theorem fold_same {kind : Int} (hk : inB kind 0 3 = true) {z z' : Pt} (hz : pointB z.1 z.2 = true) (hz' : pointB z'.1 z'.2 = true) {g : Int × Bool} (hg : g ∈ symsL kind) (h : keyP z' = aI g.1 g.2 (keyP z)) :
    keyP (foldP kind z').1 = keyP (foldP kind z).1 ∧ finP (foldP kind z).1 ∧ finP (foldP kind z').1 := by
  obtain ⟨a, ha, fa, sa⟩ := firstG_some hk (keyP z)
  obtain ⟨b, hb, fb, sb⟩ := firstG_some hk (keyP z')
  rw [foldP_g hz fa, foldP_g hz' fb]
  dsimp only
  obtain ⟨k1, k2⟩ := actP_key (f := a.2) (symsL_in a ha) hz
  obtain ⟨k3, k4⟩ := actP_key (f := b.2) (symsL_in b hb) hz'
  refine ⟨?_, k2, k4⟩
  rw [k1, k3]
  refine inv_side hk sb sa ?_ (inv_step hk ha (inv_refl hk (keyP z)))
  rw [h]
  exact inv_step hk hb (inv_step hk hg (inv_refl hk (keyP z)))
theorem take_sym {kind q k st : Nat} {g : Int × Bool} {ls : List Sh} {light : Col} (hk4 : kind < 4) (hg : g ∈ symsL (kind : Int)) (hq : q < 8) (hk : k < (q + 1) * (q + 1)) (hst : st ∈ stepsL) (hok : ls.all okSh = true) :
    takeC (kind : Int) ((q : Int) + 1) st ls light (toN q k g) = takeC (kind : Int) ((q : Int) + 1) st ls light k := by
  have hki : inB (kind : Int) 0 3 = true := by unfold inB; simp; omega
  obtain ⟨t, f⟩ := g
  have ht : inB t 0 3 = true := symsL_in (t, f) hg
  obtain ⟨n, hn8, e⟩ := sym_num (f := f) ht
  obtain ⟨c1, c2, _⟩ := cells_all q k n hq hk hn8
  rw [e] at c1 c2
  dsimp only at c1 c2
  have c0 := okCell_of q k hq hk
  have hn := (toN_ok (q := q) (k := k) (g := (t, f)) hq hk ht).1
  dsimp only at hn
  rw [hn] at c1 c2
  obtain ⟨k1, k2⟩ := spot_facts hst c0
  obtain ⟨k3, k4⟩ := spot_facts hst c1
  have hsm := (ptI_sm c0).mono (c := 8) (by have := (okCell_bd c0).2.1; omega)
  obtain ⟨e1, e2, e3⟩ := fold_same hki k2 k4 hg (by rw [k3, k1, c2, scale_aI hsm])
  unfold takeC
  refine seen_turn (t := 0) (f := false) e2 e3 (by rw [e1]; rfl) ls ls rfl (fun i s s' hs hs' => ?_) light
  rw [hs] at hs'
  injection hs' with hs'
  subst hs'
  obtain ⟨o1, o2, o3, _, _⟩ := okSh_parts (List.all_eq_true.1 hok s (List.mem_of_getElem? hs))
  exact ⟨⟨point_fin o1, point_fin o2, point_fin o3⟩, ⟨point_fin o1, point_fin o2, point_fin o3⟩, rfl, rfl, rfl, rfl⟩
/-- what a picture taken between mirrors of a kind is -/
def TakenP (kind q : Nat) (xs : List Col) : Prop := Pic q xs ∧ ∀ k, k < (q + 1) * (q + 1) → ∀ g ∈ symsL (kind : Int), atK xs (toN q k g) = atK xs k
theorem taken_p {kind q st : Nat} {ls : List Sh} {light : Col} (hk4 : kind < 4) (hq : q < 8) (hst : st ∈ stepsL) (hok : ls.all okSh = true) (hc : colB light = true) :
    TakenP kind q (takeUp (kind : Int) ((q : Int) + 1) st ls light ((q + 1) * (q + 1))) := by
  refine ⟨take_pic hq hok hc, fun k hk g hg => ?_⟩
  have ht : inB g.1 0 3 = true := symsL_in g hg
  have h2 := (toN_ok (q := q) (k := k) (g := g) hq hk ht).2
  unfold atK
  rw [takeUp_at h2, takeUp_at hk, take_sym hk4 hg hq hk hst hok]
theorem taken_keep {kind q : Nat} {xs : List Col} (h : TakenP kind q xs) {g : Int × Bool} (hg : g ∈ symsL (kind : Int)) : keepB ((q : Int) + 1) xs g = true := by
  have ht : inB g.1 0 3 = true := symsL_in g hg
  rw [keep_iff h.1 ht]
  intro k hk
  rw [h.1.2.1] at hk
  exact h.2 k hk g hg
theorem taken_has {kind q : Nat} {xs : List Col} (hk4 : kind < 4) (h : TakenP kind q xs) {g : Int × Bool} (hg : g ∈ symsL (kind : Int)) : inS (symsP ((q : Int) + 1) xs) g = true := by
  rw [inS_iff, mem_symsP h.1]
  exact ⟨symsL_in3 kind hk4 g hg, taken_keep h hg⟩
theorem taken_mir {kind q : Nat} {xs : List Col} (hk4 : kind < 4) (h : TakenP kind q xs) : (kind : Int) ≤ mirI ((q : Int) + 1) xs := by
  rw [mirI_eq]
  have hok : okA ((q : Int) + 1) xs kind = true := by
    unfold okA
    rw [pic_ok h.1, Bool.true_and, List.all_eq_true]
    exact fun g hg => taken_keep h hg
  have key : ∀ n, kind < n → (kind : Int) ≤ lastUp (okA ((q : Int) + 1) xs) (-1) n := by
    intro n
    induction n with
    | zero => intro h; omega
    | succ n ih =>
      intro h
      cases hn : okA ((q : Int) + 1) xs n
      · rw [lastUp_no hn]
        refine ih ?_
        by_cases e : kind = n
        · subst e; rw [hok] at hn; cases hn
        · omega
      · rw [lastUp_yes hn]; omega
  exact key 4 hk4
def firstOk (kind q : Nat) : Bool := (List.range ((q + 1) * (q + 1))).all fun k => (symsL (kind : Int)).any fun g => decide (firstI (kind : Int) ((q : Int) + 1) (k : Int) = cellI ((q : Int) + 1) (k : Int) g.1 g.2)
theorem first_all : ∀ kind : Nat, kind < 4 → ∀ q : Nat, q < 6 → firstOk kind q = true := by decide +kernel
theorem first_cell {kind q k : Nat} (hk4 : kind < 4) (hq : q < 6) (hk : k < (q + 1) * (q + 1)) : ∃ g ∈ symsL (kind : Int), (firstI (kind : Int) ((q : Int) + 1) (k : Int)).toNat = toN q k g := by
  have h := List.all_eq_true.1 (first_all kind hk4 q hq) k (List.mem_range.2 hk)
  obtain ⟨g, hg, he⟩ := List.any_eq_true.1 h
  refine ⟨g, hg, ?_⟩
  rw [of_decide_eq_true he]
  rfl
theorem taken_spread {kind q : Nat} {xs : List Col} (hk4 : kind < 4) (hq : q < 6) (h : TakenP kind q xs) : sameP ((q : Int) + 1) xs ((q : Int) + 1) (spreadUp (kind : Int) ((q : Int) + 1) xs xs.length) = true := by
  have hpz := (spread_pic h.1 hk4).2
  rw [sameP_iff h.1.2.2 hpz.2.2 (by rw [spreadUp_len])]
  intro k hk
  have hk' : k < (q + 1) * (q + 1) := by rw [← h.1.2.1]; exact hk
  obtain ⟨g, hg, e⟩ := first_cell hk4 hq hk'
  have ht : inB g.1 0 3 = true := symsL_in g hg
  have h2 := (toN_ok (q := q) (k := k) (g := g) (by omega) hk' ht).2
  rw [← h.2 k hk' g hg]
  unfold atK spreadUp
  rw [List.getElem?_map, List.getElem?_range hk]
  simp only [Option.map_some]
  rw [e, List.getD_eq_getElem?_getD, List.getElem?_eq_getElem (show toN q k g < xs.length by rw [h.1.2.1]; exact h2)]
  rfl
end Go.Proofs.YthlphmojldbpkaaGreat

/- A law's argument: slices of structs of floats, opened. -/
namespace Go.Proofs.YthlphmojldbpkaaGreat
open Go.ChangeShapes Go.WideShapes Go.ChangeAt Go.RowKit Go.Joins Go.Deep

section
variable {H : Type} {enc : TypeId × Value → H} {P : Program} {w : World} {base : Nat} {spare : Nat → Bool} {held : Bool}
theorem trod_float {t : TypeId} {k : FloatKind} {v : Value} {fuel : Nat} {y : DataW H × List MemPlace} (ht : P.underlying t = some (.float k)) (h : DataW.trod enc P w base spare held fuel t [v] = some y) : ∃ b, v = .float k b := by
  cases fuel with
  | zero => simp [DataW.trod] at h
  | succ n =>
    unfold DataW.trod at h
    rw [ht] at h
    cases v <;> simp at h
    rename_i k' b
    by_cases e : k' = k
    · subst e; exact ⟨b, rfl⟩
    · exfalso; revert h; simp_all
end

theorem list_of {α : Type} (n : Nat) (p : Nat → α → Prop) (h : ∀ i, i < n → ∃ x, p i x) : ∃ xs : List α, xs.length = n ∧ ∀ (k : Nat) x, xs[k]? = some x → p k x := by
  induction n with
  | zero => exact ⟨[], rfl, fun k x hx => by simp at hx⟩
  | succ n ih =>
    obtain ⟨xs, hl, hp⟩ := ih (fun i hi => h i (by omega))
    obtain ⟨x, hx⟩ := h n (by omega)
    refine ⟨xs ++ [x], by simp [hl], fun k y hy => ?_⟩
    by_cases hk : k < n
    · rw [List.getElem?_append_left (by omega)] at hy
      exact hp k y hy
    · have hkn : k = n := by
        have := (List.getElem?_eq_some_iff.1 hy).1
        simp [hl] at this
        omega
      subst hkn
      rw [List.getElem?_append_right (by omega), hl] at hy
      simp at hy
      subst hy
      exact hx

/-- cells at the places of a row, brought into the form 'Rd' -/
theorem rd_of_cells {α : Type} {enc : α → List Value} {sz : Nat} {w : World} {a : Addr} {n : Nat} (hsz : 0 < sz) (he : ∀ x, (enc x).length = sz)
    (h : ∀ i, i < n → ∃ x : α, ∀ j u, (enc x)[j]? = some u → w.cell? (a.add (i * sz + j)) = some u) : ∃ xs, Rd enc sz w w.heap.size (some a) n xs := by
  obtain ⟨xs, hl, hp⟩ := list_of n _ h
  refine ⟨xs, hl, fun hn => ?_⟩
  obtain ⟨x, hx⟩ := h 0 hn
  have h0 : ∃ u, (enc x)[0]? = some u := ⟨_, List.getElem?_eq_getElem (by rw [he]; exact hsz)⟩
  obtain ⟨u, hu⟩ := h0
  have hc := hx 0 u hu
  have ha : a.add (0 * sz + 0) = a := by simp [Addr.add]
  rw [ha] at hc
  have hs : a.spot = none := by
    unfold World.cell? at hc
    split at hc
    · cases hsp : a.spot with
      | none => rfl
      | some q => simp [hsp] at hc
    · cases hc
  obtain ⟨b, off, sp⟩ := a
  simp only at hs
  subst hs
  refine ⟨b, off, rfl, World.block_lt_of_cell? w _ hc, fun k x hx j u hu => ?_⟩
  have := hp k x hx j u hu
  unfold Addr.add at this
  split at this
  · rename_i h0
    rw [show off + k * sz + j = off from by omega]
    exact this
  · rw [show off + k * sz + j = off + (k * sz + j) from by omega]
    exact this

theorem rd_of_cells_q {α : Type} {enc : α → List Value} {sz : Nat} {w : World} {a : Addr} {n : Nat} {Q : α → Prop} (hsz : 0 < sz) (he : ∀ x, (enc x).length = sz)
    (h : ∀ i, i < n → ∃ x : α, Q x ∧ ∀ j u, (enc x)[j]? = some u → w.cell? (a.add (i * sz + j)) = some u) : ∃ xs, Rd enc sz w w.heap.size (some a) n xs ∧ ∀ x ∈ xs, Q x := by
  obtain ⟨xs, hl, hp⟩ := list_of n _ h
  refine ⟨xs, ⟨hl, fun hn => ?_⟩, fun x hx => ?_⟩
  · obtain ⟨x, _, hx⟩ := h 0 hn
    have h0 : ∃ u, (enc x)[0]? = some u := ⟨_, List.getElem?_eq_getElem (by rw [he]; exact hsz)⟩
    obtain ⟨u, hu⟩ := h0
    have hc := hx 0 u hu
    have ha : a.add (0 * sz + 0) = a := by simp [Addr.add]
    rw [ha] at hc
    have hs : a.spot = none := by
      unfold World.cell? at hc
      split at hc
      · cases hsp : a.spot with
        | none => rfl
        | some q => simp [hsp] at hc
      · cases hc
    obtain ⟨b, off, sp⟩ := a
    simp only at hs
    subst hs
    refine ⟨b, off, rfl, World.block_lt_of_cell? w _ hc, fun k x hx j u hu => ?_⟩
    have := (hp k x hx).2 j u hu
    unfold Addr.add at this
    split at this
    · rename_i h0
      rw [show off + k * sz + j = off from by omega]
      exact this
    · rw [show off + k * sz + j = off + (k * sz + j) from by omega]
      exact this
  · obtain ⟨k, hk⟩ := List.getElem?_of_mem hx
    exact (hp k x hk).1

section
variable {H : Type} {enc : TypeId × Value → H} {P : Program} {w : World} {base : Nat} {spare : Nat → Bool} {held : Bool}
/-- a slice of bytes -/
theorem open_bytes {r : Reach} {b0 : Nat} {t e : TypeId} {v : Value} {d : DataW H} {ps : List MemPlace} (ht : P.underlying t = some (.slice e)) (he : P.underlying e = some (.int .u8)) (hc : P.cellsOf e = 1)
    (hv : Value.okWide P w r b0 t v) (h : DataW.Trod enc P w base spare held t v d ps) :
    ∃ A n c bs, v = .slice A n c ∧ n ≤ maxLen ∧ Rd byteC 1 w w.heap.size A n bs ∧ ∀ x ∈ bs, 0 ≤ x ∧ x ≤ 255 := by
  obtain ⟨a0, len, cap, rfl⟩ := okWide_slice ht hv
  obtain ⟨fuel, hf⟩ := h
  rcases open_ints ht he hc hf with ⟨hcs, _⟩ | ⟨a, l, c, zs, hcs, _, hl, hm, hz, _, hcell, hwz⟩
  · simp [Value.cells] at hcs
    obtain ⟨rfl, rfl, rfl⟩ := hcs
    exact ⟨none, 0, 0, [], rfl, by simp [maxLen], Rd.nil_, fun x hx => by cases hx⟩
  · simp [Value.cells] at hcs
    obtain ⟨rfl, rfl, rfl⟩ := hcs
    have hx : ∃ xs, Rd byteC 1 w w.heap.size (some a) len xs ∧ ∀ x ∈ xs, 0 ≤ x ∧ x ≤ 255 := by
      refine rd_of_cells_q (by omega) (fun _ => rfl) (fun i hi => ?_)
      have hlt : i < zs.length := by rw [hz]; split <;> omega
      have e := hcell i hlt
      have hw := hwz (zs.getD i 0) (by rw [List.getD_eq_getElem?_getD, List.getElem?_eq_getElem hlt]; exact List.getElem_mem hlt)
      generalize zs.getD i 0 = z at *
      refine ⟨z, ?_, fun j u hu => ?_⟩
      · simp [Lit.wf, IntKind.min, IntKind.max, IntKind.signed, IntKind.bits] at hw; omega
      · have hj : j = 0 := by
          have := (List.getElem?_eq_some_iff.1 hu).1
          simp [byteC] at this
          exact this
        subst hj
        simp only [Nat.mul_one, Nat.add_zero]
        rw [e]
        exact hu
    obtain ⟨xs, hx, hq⟩ := hx
    exact ⟨some a, len, cap, xs, rfl, by omega, hx, hq⟩
end

section
variable {H : Type} {enc : TypeId × Value → H} {w : World} {base : Nat} {spare : Nat → Bool} {held : Bool}
end
end Go.Proofs.YthlphmojldbpkaaGreat
