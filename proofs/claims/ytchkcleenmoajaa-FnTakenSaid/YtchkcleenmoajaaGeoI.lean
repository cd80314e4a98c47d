
/- Points with small whole parts: what symmetries make of them; the cell to which a symmetry takes a cell. No program. -/
import Derived.Test.YtchkcleenmoajaaGeo
namespace Go.Proofs.Ytchkcleenmoajaa

def fl (n : Int) : Nat := floatOfInt .f32 n
def ptI (size cell : Int) : Int × Int := (2 * (cell % size) + 1 - size, size - 1 - 2 * (cell / size))
def rI (p : Int × Int) : Int × Int := (-p.2, p.1)
def rIN : Nat → Int × Int → Int × Int
  | 0, p => p
  | n + 1, p => rI (rIN n p)
def aI (t : Int) (f : Bool) (p : Int × Int) : Int × Int := rIN t.toNat (p.1, if f then -p.2 else p.2)
def toCell (size : Int) (q : Int × Int) : Int := ((size - 1 - q.2) / 2) * size + (q.1 + size - 1) / 2
def cellI (size cell t : Int) (f : Bool) : Int := toCell size (aI t f (ptI size cell))
def okCell (size cell : Int) : Bool := inB size 1 8 && inB cell 0 (size * size - 1)

def Sm (b : Int) (p : Int × Int) : Prop := -b ≤ p.1 ∧ p.1 ≤ b ∧ -b ≤ p.2 ∧ p.2 ≤ b

theorem small_all : ∀ k : Nat, k < 17 → subB 0 (fl ((k : Int) - 8)) = fl (-((k : Int) - 8)) ∧ addB (fl ((k : Int) - 8)) 0 = fl ((k : Int) - 8) ∧ cleanB (fl ((k : Int) - 8)) = fl ((k : Int) - 8) ∧
    reachB (fl ((k : Int) - 8)) = true ∧ floatToIntVal .f32 (fl ((k : Int) - 8)) .i64 = some ((k : Int) - 8) := by decide +kernel
theorem small_at (n : Int) (h1 : -8 ≤ n) (h2 : n ≤ 8) : subB 0 (fl n) = fl (-n) ∧ addB (fl n) 0 = fl n ∧ cleanB (fl n) = fl n ∧ reachB (fl n) = true ∧ floatToIntVal .f32 (fl n) .i64 = some n := by
  have h := small_all (n + 8).toNat (by omega)
  have e : (((n + 8).toNat : Nat) : Int) - 8 = n := by omega
  rw [e] at h
  exact h

theorem rI_sm {b : Int} {p : Int × Int} (h : Sm b p) : Sm b (rI p) := by
  obtain ⟨a, c, d, e⟩ := h
  exact ⟨by show -b ≤ -p.2; omega, by show -p.2 ≤ b; omega, a, c⟩
theorem rIN_sm {b : Int} {p : Int × Int} (h : Sm b p) : ∀ n, Sm b (rIN n p)
  | 0 => h
  | n + 1 => rI_sm (rIN_sm h n)
theorem aI_sm {b : Int} {p : Int × Int} (h : Sm b p) (t : Int) (f : Bool) : Sm b (aI t f p) := by
  refine rIN_sm ?_ _
  obtain ⟨a, c, d, e⟩ := h
  cases f
  · exact ⟨a, c, d, e⟩
  · exact ⟨a, c, by show -b ≤ -p.2; omega, by show -p.2 ≤ b; omega⟩
def flP (p : Int × Int) : Nat × Nat := (fl p.1, fl p.2)
theorem rot_small {p : Int × Int} (h : Sm 8 p) : rotB (flP p) = flP (rI p) := by
  obtain ⟨a, c, d, e⟩ := h
  unfold rotB flP rI
  rw [(small_at p.2 d e).1]
theorem rotN_small {p : Int × Int} (h : Sm 8 p) : ∀ n, rotN n (flP p) = flP (rIN n p)
  | 0 => rfl
  | n + 1 => by
    show rotB (rotN n (flP p)) = flP (rI (rIN n p))
    rw [rotN_small h n, rot_small (rIN_sm h n)]
theorem flipB_false (y : Nat) : flipB false y = y := rfl
theorem flipB_true (y : Nat) : flipB true y = subB 0 y := rfl
theorem rotN_flip {p : Int × Int} (h : Sm 8 p) (n : Nat) (f : Bool) : rotN n (fl p.1, flipB f (fl p.2)) = flP (rIN n (p.1, if f then -p.2 else p.2)) := by
  obtain ⟨x, y⟩ := p
  obtain ⟨a, c, d, e⟩ := h
  dsimp only at a c d e ⊢
  cases f
  · rw [flipB_false]
    simp only [Bool.false_eq_true, if_false]
    have := rotN_small (p := (x, y)) ⟨a, c, d, e⟩ n
    rw [← this]
    simp only [flP]
  · rw [flipB_true, (small_at y d e).1]
    simp only [if_true]
    have := rotN_small (p := (x, -y)) ⟨a, c, by show -8 ≤ -y; omega, by show -y ≤ 8; omega⟩ n
    rw [← this]
    simp only [flP]
theorem actS_small {p : Int × Int} (h : Sm 8 p) (t : Int) (f : Bool) : actS t f (fl p.1) (fl p.2) = flP (aI t f p) := by
  unfold actS aI
  have hh := h
  obtain ⟨a, c, d, e⟩ := h
  rw [(small_at p.1 a c).2.1, (small_at p.2 d e).2.1]
  exact rotN_flip hh _ f
theorem actI_small {p : Int × Int} (h : Sm 8 p) (t : Int) (f : Bool) : actI t f (fl p.1) (fl p.2) = flP (aI t f p) := by
  have hs := aI_sm h t f
  have hq : rotN t.toNat (fl p.1, flipB f (fl p.2)) = flP (aI t f p) := rotN_flip h _ f
  obtain ⟨a, c, d, e⟩ := hs
  unfold actI
  rw [hq]
  simp only [flP]
  rw [(small_at _ a c).2.2.1, (small_at _ d e).2.2.1]
theorem point_small {p : Int × Int} (h : Sm 8 p) : pointB (fl p.1) (fl p.2) = true := by
  obtain ⟨a, c, d, e⟩ := h
  unfold pointB
  rw [(small_at p.1 a c).2.2.2.1, (small_at p.2 d e).2.2.2.1]
  rfl

theorem mod_bd {size cell : Int} (h1 : 1 ≤ size) (h3 : 0 ≤ cell) : 0 ≤ cell % size ∧ cell % size < size ∧ 0 ≤ cell / size ∧ cell / size ≤ cell :=
  ⟨Int.emod_nonneg _ (by omega), Int.emod_lt_of_pos _ (by omega), Int.ediv_nonneg h3 (by omega), Int.ediv_le_self _ h3⟩
theorem okCell_bd {size cell : Int} (h : okCell size cell = true) : 1 ≤ size ∧ size ≤ 8 ∧ 0 ≤ cell ∧ cell < size * size ∧ cell ≤ 63 ∧ cell / size < size := by
  simp only [okCell, inB, Bool.and_eq_true, decide_eq_true_eq] at h
  obtain ⟨⟨h1, h2⟩, h3, h4⟩ := h
  have hb : size * size ≤ 8 * 8 := Int.mul_le_mul h2 h2 (by omega) (by omega)
  exact ⟨h1, h2, h3, by omega, by omega, (Int.ediv_lt_iff_lt_mul (by omega)).2 (by omega)⟩
theorem ptI_sm {size cell : Int} (h : okCell size cell = true) : Sm (size - 1) (ptI size cell) := by
  obtain ⟨h1, h2, h3, h4, h5, h6⟩ := okCell_bd h
  obtain ⟨m1, m2, m3, m4⟩ := mod_bd h1 h3
  refine ⟨?_, ?_, ?_, ?_⟩ <;> simp only [ptI] <;> omega
theorem Sm.mono {b c : Int} {p : Int × Int} (h : Sm b p) (hc : b ≤ c) : Sm c p := by
  obtain ⟨x, y, z, u⟩ := h
  exact ⟨by omega, by omega, by omega, by omega⟩
end Go.Proofs.Ytchkcleenmoajaa
