
/- '==' on structs. -/
import Derived.Test.YtchkcleenmoajaaMem
import Derived.Laws.StructEq
namespace Go.Proofs.Ytchkcleenmoajaa
open Go.RowKit

def colEqB (a b : Col) : Bool := eqB a.1 b.1 && eqB a.2.1 b.2.1 && eqB a.2.2 b.2.2

section
variable {P : Program} (w : World)
theorem run_equalIn_float (d : Nat) (t : TypeId) (k k' : FloatKind) (a b : Nat) (h : P.underlying t = some (.float k')) : (Op.equalIn (d + 1) t (.float k a) (.float k b)).run P w = .ok (k.format.order a b == some .eq) w := by
  simp [Op.equalIn, run_underlying h, Op.floatEq]
theorem run_equalIn_complex (d : Nat) (t : TypeId) (k k' : FloatKind) (a b a' b' : Nat) (h : P.underlying t = some (.complex k')) : (Op.equalIn (d + 1) t (.complex k a b) (.complex k a' b')).run P w = .ok ((k.format.order a a' == some .eq) && (k.format.order b b' == some .eq)) w := by
  simp [Op.equalIn, run_underlying h, Op.floatEq]
end

theorem colEq_fields (d : Nat) (r g b r' g' b' : Nat) (w : World) : (Op.eqFields (d + 1) #[.float .f32 r, .float .f32 g, .float .f32 b] #[.float .f32 r', .float .f32 g', .float .f32 b'] (Try.prog.fieldsOf 27).toList).run Try.prog w = .ok (colEqB (r, g, b) (r', g', b')) w := by
  have h : colEqB (r, g, b) (r', g', b') = ((FloatKind.f32.format.order r r' == some .eq) && ((FloatKind.f32.format.order g g' == some .eq) && (FloatKind.f32.format.order b b' == some .eq))) := by
    show (eqB r r' && eqB g g' && eqB b b') = (eqB r r' && (eqB g g' && eqB b b'))
    rw [Bool.and_assoc]
  rw [h]
  have k := fun wx d a b => run_equalIn_float (P := Try.prog) wx d 25 .f32 .f32 a b Try.underlying25
  cases h1 : (FloatKind.f32.format.order r r' == some .eq) <;> cases h2 : (FloatKind.f32.format.order g g' == some .eq) <;> cases h3 : (FloatKind.f32.format.order b b' == some .eq) <;> simp at h1 h2 h3 <;> simp [go_sem, Try.underlying27, k, h1, h2, h3]

theorem run_neq_col (r g b r' g' b' : Nat) (w : World) : (binOp .neq 27 (.agg #[.float .f32 r, .float .f32 g, .float .f32 b]) (.agg #[.float .f32 r', .float .f32 g', .float .f32 b'])).run Try.prog w = .ok (.bool (!(colEqB (r, g, b) (r', g', b')))) w := by
  rw [run_neq_struct]
  have ht : Try.prog.underlying 27 = some (.struct (Try.prog.fieldsOf 27)) := by kernel_rfl
  have hp : Try.prog.stoodInHeld 27 = false := by kernel_rfl
  rw [run_equalIn_agg (P := Try.prog) w 9999 27 _ _ ht hp, colEq_fields 9998]
  rfl

def sameCells (xs ys : List Col) : Bool := xs.length == ys.length && (List.zipWith colEqB xs ys).all id
def sameP (s1 : Int) (xs : List Col) (s2 : Int) (ys : List Col) : Bool := (s1 == s2) && sameCells xs ys

theorem sameCells_len {xs ys : List Col} (h : xs.length ≠ ys.length) : sameCells xs ys = false := by simp [sameCells, h]
theorem sameCells_no {xs ys : List Col} {i : Nat} {x y : Col} (hx : xs[i]? = some x) (hy : ys[i]? = some y) (h : colEqB x y = false) : sameCells xs ys = false := by
  have hz : (List.zipWith colEqB xs ys)[i]? = some false := by simp [List.getElem?_zipWith, hx, hy, h]
  unfold sameCells
  have hm := List.mem_of_getElem? hz
  have : (List.zipWith colEqB xs ys).all id = false := by
    rw [List.all_eq_false]
    exact ⟨false, hm, by simp⟩
  rw [this, Bool.and_false]
theorem sameCells_yes {xs ys : List Col} (hl : xs.length = ys.length) (h : ∀ (i : Nat) x y, xs[i]? = some x → ys[i]? = some y → colEqB x y = true) : sameCells xs ys = true := by
  unfold sameCells
  rw [beq_iff_eq.2 hl, Bool.true_and, List.all_eq_true]
  intro b hb
  obtain ⟨i, hi⟩ := List.getElem?_of_mem hb
  rw [List.getElem?_zipWith] at hi
  cases hx : xs[i]? with
  | none => simp [hx] at hi
  | some x =>
    cases hy : ys[i]? with
    | none => simp [hx, hy] at hi
    | some y =>
      simp [hx, hy] at hi
      rw [← hi]
      simpa using h i x y hx hy
end Go.Proofs.Ytchkcleenmoajaa
