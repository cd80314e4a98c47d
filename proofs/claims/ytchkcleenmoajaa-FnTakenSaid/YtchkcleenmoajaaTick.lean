
/- tick: the program's. -/
import Derived.Test.YtchkcleenmoajaaTum2
import Derived.Laws.StructEq
namespace Go.Proofs.Ytchkcleenmoajaa
open Go.RowKit
attribute [local go_sem] run_store_float run_store_complex

theorem symEqT_fields (d : Nat) (t t' : Int) (f f' : Bool) (w : World) : (Op.eqFields (d + 1) #[.int .i64 t, .bool f] #[.int .i64 t', .bool f'] (Try.prog.fieldsOf 31).toList).run Try.prog w = .ok ((t, f) == (t', f')) w := by
  have h : ((t, f) == (t', f')) = (t == t' && f == f') := rfl
  rw [h]
  have k1 := fun wx d a b => run_equalIn_int (P := Try.prog) wx d 3 .i64 .i64 a b Try.underlying3
  have k2 := fun wx d a b => run_equalIn_bool' (P := Try.prog) wx d 4 a b Try.underlying4
  cases h1 : (t == t') <;> cases h2 : (f == f') <;> simp at h1 h2 <;> simp [go_sem, Try.underlying31, k1, k2, h1, h2]
theorem run_neq_symT (t t' : Int) (f f' : Bool) (w : World) : (binOp .neq 31 (.agg #[.int .i64 t, .bool f]) (.agg #[.int .i64 t', .bool f'])).run Try.prog w = .ok (.bool (!((t, f) == (t', f')))) w := by
  rw [run_neq_struct]
  have ht : Try.prog.underlying 31 = some (.struct (Try.prog.fieldsOf 31)) := by kernel_rfl
  have hp : Try.prog.stoodInHeld 31 = false := by kernel_rfl
  rw [run_equalIn_agg (P := Try.prog) w 9999 31 _ _ ht hp, symEqT_fields 9998]
  rfl

/-- one bead's tick; none: not possible; whether it is folded -/
def slow (loss : Nat) (s : Pt) : Pt := (mulB s.1 (subB 1065353216 loss), mulB s.2 (subB 1065353216 loss))
def goOk (gr : Pt) (b : Bd) : Bool := pointB (plusP b.2 gr).1 (plusP b.2 gr).2 && pointB (plusP b.1 (plusP b.2 gr)).1 (plusP b.1 (plusP b.2 gr)).2
def goBd (mir : Int) (gr : Pt) (loss : Nat) (b : Bd) : Bd × Bool :=
  let r := foldP mir (plusP b.1 (plusP b.2 gr))
  let s := actP r.2.1.1 r.2.1.2 (plusP b.2 gr).1 (plusP b.2 gr).2
  if r.2.1 == (0, false) then ((r.1, s), false) else ((r.1, slow loss s), true)
/-- a tick of all beads -/
def allGo (gr : Pt) (bs : List Bd) : Bool := bs.all (goOk gr)
def goL (mir : Int) (gr : Pt) (loss : Nat) (bs : List Bd) : List Bd := bs.map (fun b => (goBd mir gr loss b).1)
def goF (mir : Int) (gr : Pt) (loss : Nat) (bs : List Bd) : List Bool := bs.map (fun b => (goBd mir gr loss b).2)
def boC (b : Bool) : List Value := [.bool b]
theorem boC_len (b : Bool) : (boC b).length = 1 := rfl
theorem flat_setBd {ys : List Bd} : ∀ {i : Nat}, i < ys.length → ∀ (a v : Pt), flat bdC (ys.set i (a, v)) = ((flat bdC ys).set (i * 2) (.complex .f32 a.1 a.2)).set (i * 2 + 1) (.complex .f32 v.1 v.2) := by
  induction ys with
  | nil => intro i h; simp at h
  | cons y ys ih =>
    intro i h a v
    cases i with
    | zero => rfl
    | succ i =>
      rw [List.set_cons_succ, flat_cons, flat_cons, ih (by simpa using h)]
      have e : (i + 1) * 2 = i * 2 + 1 + 1 := by omega
      rw [e]
      rfl
theorem flat_setBo {ys : List Bool} : ∀ {i : Nat}, i < ys.length → ∀ (f : Bool), flat boC (ys.set i f) = (flat boC ys).set i (.bool f) := by
  induction ys with
  | nil => intro i h; simp at h
  | cons y ys ih =>
    intro i h f
    cases i with
    | zero => rfl
    | succ i =>
      rw [List.set_cons_succ, flat_cons, flat_cons, ih (by simpa using h)]
      rfl
theorem own_drewN {w : World} {base : Nat} {E : TypeId} {sz : Nat} {v : Value} {n : Nat} {xs : List Value} (h : w.ownsRow base E sz v n xs) (k : Nat) : (w.drewN k).ownsRow base E sz v n xs := h
theorem set_same {α : Type} {l : List α} {k : Nat} {x : α} (h : l[k]? = some x) : l.set k x = l := by
  apply List.ext_getElem?
  intro i
  have hk := (List.getElem?_eq_some_iff.1 h).1
  by_cases e : i = k
  · subst e; rw [List.getElem?_set_self hk, h]
  · rw [List.getElem?_set_ne (by omega)]
/-- the first k are those of ys, the others those of xs -/
def mixL {α : Type} (ys xs : List α) (k : Nat) : List α := ys.take k ++ xs.drop k
theorem mixL_len {α : Type} {ys xs : List α} {k : Nat} (h : ys.length = xs.length) (hk : k ≤ xs.length) : (mixL ys xs k).length = xs.length := by
  unfold mixL; rw [List.length_append, List.length_take, List.length_drop]; omega
theorem mixL_set {α : Type} {ys xs : List α} {k : Nat} {y : α} (h : ys.length = xs.length) (hy : ys[k]? = some y) : (mixL ys xs k).set k y = mixL ys xs (k + 1) := by
  have hk := (List.getElem?_eq_some_iff.1 hy).1
  apply List.ext_getElem?
  intro i
  have hl1 := mixL_len h (show k ≤ xs.length by omega)
  have ht : (ys.take k).length = k := by rw [List.length_take]; omega
  have ht' : (ys.take (k + 1)).length = k + 1 := by rw [List.length_take]; omega
  by_cases e : i = k
  · subst e
    rw [List.getElem?_set_self (by omega)]
    unfold mixL
    rw [List.getElem?_append_left (by omega), List.getElem?_take_of_lt (by omega), hy]
  · rw [List.getElem?_set_ne (by omega)]
    unfold mixL
    by_cases hi : i < k
    · rw [List.getElem?_append_left (by omega), List.getElem?_append_left (by omega), List.getElem?_take_of_lt hi, List.getElem?_take_of_lt (by omega)]
    · rw [List.getElem?_append_right (by omega), List.getElem?_append_right (by omega), ht, ht', List.getElem?_drop, List.getElem?_drop]
      congr 1; omega
theorem mixL_zero {α : Type} (ys xs : List α) : mixL ys xs 0 = xs := by simp [mixL]
theorem mixL_all {α : Type} {ys xs : List α} (h : ys.length = xs.length) : mixL ys xs xs.length = ys := by
  unfold mixL
  rw [List.drop_length, List.append_nil, ← h, List.take_length]

theorem infoBo : (Try.prog.info? 4).map (fun i => (i.zero, i.size, i.bytes)) = some (some (.bool false), 1, 1) := by kernel_rfl
theorem flat_falses (n : Nat) : (madeCells #[.bool false] n).toList = flat boC (List.replicate n false) := by
  apply List.ext_getElem?
  intro j
  by_cases hj : j < n
  · have h1 := flat_get boC_len (List.replicate n false) j false (by simp [hj]) 0 (.bool false) rfl
    rw [Nat.mul_one, Nat.add_zero] at h1
    rw [h1]
    have hr : (Array.range n)[j]? = some j := by simp [hj]
    rw [madeCells, Array.getElem?_toList, Array.getElem?_map, hr]
    simp [Nat.mod_one]
  · rw [List.getElem?_eq_none (by simp [madeCells]; omega), List.getElem?_eq_none (by rw [flat_length boC_len, List.length_replicate]; omega)]
theorem own_falses {base n : Nat} (W : World) (hb : base ≤ W.heap.size) (hn : n ≤ maxLen) :
    (W.alloc (.cells (madeCells #[.bool false] n) 4)).ownsRow base 4 1 (.slice (some ⟨W.heap.size, 0, none⟩) n n) n (flat boC (List.replicate n false)) := by
  rw [← flat_falses]
  exact World.ownsRow_lit W _ n hb hn (by simp [madeCells])
def tumV (mir : Int) (gr : Pt) (loss : Nat) (s : Value) : Value := .agg #[.int .i64 mir, .complex .f32 gr.1 gr.2, .float .f32 loss, s]
end Go.Proofs.Ytchkcleenmoajaa
