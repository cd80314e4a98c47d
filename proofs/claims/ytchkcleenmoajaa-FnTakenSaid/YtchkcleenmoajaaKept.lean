
/- What slices.DeleteFunc leaves in its row; clear; rows cut shorter. -/
import Derived.Test.YtchkcleenmoajaaM23
import Derived.Lib.SliceRun
import Derived.Laws.OwnMore
namespace Go.Proofs.Ytchkcleenmoajaa
open Go.RowKit

/-- how far a deleting loop has come: i kept, j looked at -/
def KeptI {α : Type} (keep : α → Bool) (l zs : List α) (i j : Nat) : Prop :=
  zs.length = l.length ∧ i < j ∧ j ≤ l.length ∧ zs.take i = (l.take j).filter keep ∧ ∀ k, j ≤ k → zs[k]? = l[k]?
theorem KeptI.start {α : Type} {keep : α → Bool} {l : List α} {i : Nat} {x : α} (hx : l[i]? = some x) (hq : keep x = false) (hall : ∀ y ∈ l.take i, keep y = true) : KeptI keep l l i (i + 1) := by
  have hi := (List.getElem?_eq_some_iff.1 hx).1
  refine ⟨rfl, by omega, by omega, ?_, fun _ _ => rfl⟩
  rw [List.take_add_one, hx, List.filter_append, List.filter_eq_self.2 hall]
  simp [hq]
theorem KeptI.keep {α : Type} {keep : α → Bool} {l zs : List α} {i j : Nat} {x : α} (h : KeptI keep l zs i j) (hx : l[j]? = some x) (hq : keep x = true) : KeptI keep l (zs.set i x) (i + 1) (j + 1) := by
  obtain ⟨h1, h2, h3, h4, h5⟩ := h
  have hj := (List.getElem?_eq_some_iff.1 hx).1
  refine ⟨by simpa using h1, by omega, by omega, ?_, fun k hk => ?_⟩
  · rw [List.take_add_one, List.take_add_one, hx, List.filter_append, ← h4]
    have e1 : (zs.set i x).take i = zs.take i := by
      apply List.ext_getElem?
      intro k
      by_cases hk : k < i
      · rw [List.getElem?_take_of_lt hk, List.getElem?_take_of_lt hk, List.getElem?_set_ne (by omega)]
      · rw [List.getElem?_take, List.getElem?_take, if_neg hk, if_neg hk]
    rw [e1, List.getElem?_set_self (by omega)]
    simp [hq]
  · rw [List.getElem?_set_ne (by omega)]; exact h5 k (by omega)
theorem KeptI.drop {α : Type} {keep : α → Bool} {l zs : List α} {i j : Nat} {x : α} (h : KeptI keep l zs i j) (hx : l[j]? = some x) (hq : keep x = false) : KeptI keep l zs i (j + 1) := by
  obtain ⟨h1, h2, h3, h4, h5⟩ := h
  have hj := (List.getElem?_eq_some_iff.1 hx).1
  refine ⟨h1, by omega, by omega, ?_, fun k hk => h5 k (by omega)⟩
  rw [List.take_add_one, hx, List.filter_append, ← h4]
  simp [hq]
theorem KeptI.done {α : Type} {keep : α → Bool} {l zs : List α} {i j : Nat} (h : KeptI keep l zs i j) (hj : j = l.length) : zs.take i = l.filter keep ∧ (l.filter keep).length = i := by
  obtain ⟨h1, h2, h3, h4, h5⟩ := h
  rw [hj, List.take_length] at h4
  refine ⟨h4, ?_⟩
  rw [← h4, List.length_take]; omega

theorem flat_take {α : Type} {enc : α → List Value} {sz : Nat} (he : ∀ x, (enc x).length = sz) : ∀ (xs : List α) (i : Nat), (flat enc xs).take (i * sz) = flat enc (xs.take i)
  | [], i => by simp [flat]
  | x :: xs, 0 => by simp [flat]
  | x :: xs, i + 1 => by
    rw [List.take_succ_cons, flat_cons, flat_cons, List.take_append, he x, ← flat_take he xs i, List.take_of_length_le (by rw [he x]; rw [Nat.add_mul]; omega)]
    congr 2
    rw [Nat.add_mul]; omega
theorem flat_set2 {ys : List (Int × Bool)} : ∀ {i : Nat}, i < ys.length → ∀ (t : Int) (f : Bool), flat symC (ys.set i (t, f)) = ((flat symC ys).set (i * 2) (.int .i64 t)).set (i * 2 + 1) (.bool f) := by
  induction ys with
  | nil => intro i h; simp at h
  | cons y ys ih =>
    intro i h t f
    cases i with
    | zero => rfl
    | succ i =>
      rw [List.set_cons_succ, flat_cons, flat_cons, ih (by simpa using h)]
      have e : (i + 1) * 2 = i * 2 + 1 + 1 := by omega
      rw [e]
      rfl

theorem own_take {w : World} {base : Nat} {E : TypeId} {sz g n c : Nat} {xs : List Value} (h : w.ownsRow base E sz (.slice (some ⟨g, 0, none⟩) n c) n xs) {i : Nat} (hi : i ≤ n) :
    w.ownsRow base E sz (.slice (some ⟨g, 0, none⟩) i c) i (xs.take (i * sz)) := by
  have hm : i * sz ≤ n * sz := Nat.mul_le_mul_right _ hi
  rcases h.2 with ⟨h', _⟩ | ⟨g', cap', cur, h', hb, hg, hnc, hcm, hcs, htake⟩
  · simp at h'
  · simp only [Value.slice.injEq, Option.some.injEq, Addr.mk.injEq, and_true, true_and] at h'
    obtain ⟨rfl, rfl⟩ := h'
    refine ⟨by rw [List.length_take, h.1]; omega, .inr ⟨g, c, cur, rfl, hb, hg, by omega, hcm, hcs, ?_⟩⟩
    rw [← htake, List.take_take, Nat.min_eq_left hm]
theorem own_beyond {w : World} {base : Nat} {E : TypeId} {sz g n c : Nat} {xs : List Value} (h : w.ownsRow base E sz (.slice (some ⟨g, 0, none⟩) n c) n xs) {j : Nat} (hj : n * sz ≤ j) (u : Value) :
    (w.setCell ⟨g, j, none⟩ u).ownsRow base E sz (.slice (some ⟨g, 0, none⟩) n c) n xs := by
  have := (h.stored j u).1
  rwa [List.set_eq_of_length_le (by rw [h.1]; exact hj)] at this
theorem own_beyonds {base : Nat} {E : TypeId} {sz g n c : Nat} {xs : List Value} : ∀ (us : List Value) (j : Nat) (w : World), w.ownsRow base E sz (.slice (some ⟨g, 0, none⟩) n c) n xs → n * sz ≤ j →
    (w.setCells g j us).ownsRow base E sz (.slice (some ⟨g, 0, none⟩) n c) n xs
  | [], _, _, h, _ => h
  | u :: us, j, w, h, hj => own_beyonds us (j + 1) _ (own_beyond h hj u) (by omega)
theorem below_setCells {B g : Nat} {w0 : World} (hg : B ≤ g) : ∀ (us : List Value) (j : Nat) (w : World), Below B w0 w → Below B w0 (w.setCells g j us)
  | [], _, _, h => h
  | u :: us, j, _, h => below_setCells hg us (j + 1) _ (h.setCell hg u)
theorem owns_slice_at {w : World} {base : Nat} {E : TypeId} {sz n c : Nat} {A : Option Addr} {xs : List Value} (h : w.ownsRow base E sz (.slice A n c) n xs) (h0 : 0 < n) : ∃ g, A = some ⟨g, 0, none⟩ ∧ n ≤ c ∧ c ≤ maxLen := by
  rcases h.2 with ⟨_, h0'⟩ | ⟨ga, cap, _, h1, _, _, h2, h3, _⟩
  · omega
  · injection h1 with h1 h4 h5
    subst h5
    exact ⟨ga, h1, h2, h3⟩

theorem zeroCells_sym (n : Nat) : ∀ v ∈ (Builtin.zeroCells #[.int .i64 0, .bool false] n).toList, v.oneCell' = true := by
  intro v hv
  unfold Builtin.zeroCells at hv
  rw [Array.toList_map, List.mem_map] at hv
  obtain ⟨i, _, rfl⟩ := hv
  have : i % #[Value.int .i64 0, Value.bool false].size < 2 := Nat.mod_lt _ (by simp)
  generalize i % #[Value.int .i64 0, Value.bool false].size = k at this
  rcases (by omega : k = 0 ∨ k = 1) with rfl | rfl <;> rfl
theorem zeroCells_len (z : Array Value) (n : Nat) : (Builtin.zeroCells z n).toList.length = n * z.size := by simp [Builtin.zeroCells]
theorem run_clear_row {P : Program} (w : World) (t e ty : TypeId) (z : Value) (ht : P.underlying t = some (.slice e)) (hv : ∀ w, (zeroValue e).run P w = .ok z w) (b o n c : Nat) (hn : 0 < n) (h1 : ∀ v ∈ (Builtin.zeroCells z.cells n).toList, v.oneCell' = true)
    (hc : ∀ j, j < n * z.cells.size → (w.cell? ⟨b, o + j, none⟩).isSome = true) (hf : ∀ j, j < n * z.cells.size → w.frozen? ⟨b, o + j, none⟩ = false) :
    (Builtin.clear_ #[t] ty #[.slice (some ⟨b, o, none⟩) n c]).run P w = .ok (.tuple #[]) (w.setCells b o (Builtin.zeroCells z.cells n).toList) := by
  have hst := run_storeCells_cells (P := P) b o (Builtin.zeroCells z.cells n).toList 0 w (by rw [zeroCells_len]; simpa using hc) (by rw [zeroCells_len]; simpa using hf) h1
  simp only [Nat.add_zero] at hst
  obtain ⟨m, rfl⟩ : ∃ m, n = m + 1 := ⟨n - 1, by omega⟩
  simp [Builtin.clear_, run_underlying ht, hv, hst]
end Go.Proofs.Ytchkcleenmoajaa
