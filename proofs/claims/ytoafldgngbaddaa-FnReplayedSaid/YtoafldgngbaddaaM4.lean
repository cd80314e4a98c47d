/- Kept · Fold · Tum · Tum2 · FoldS · FltZ · FltA · FltB · PlusS · DrawH · Box · Step · Del · HeldT · SEq -/
import Derived.Test.YtoafldgngbaddaaM3
import Derived.Lib.SliceRun
import Derived.Laws.OwnMore
import Derived.Deep.RegionLaw
import Derived.Test.YtoafldgngbaddaaM0
import Derived.Maps.AppendAt
import Derived.Deep.RegionHeld3
import Derived.Deep.AppendLies
import Derived.Laws.IdiomCopy
import Derived.Laws.StructEq

/- What slices.DeleteFunc leaves in its row; clear; rows cut shorter. -/
namespace Go.Proofs.Ytoafldgngbaddaa
open Go.RowKit

/-- how far a deleting loop has come: i kept, j looked at -/
def KeptI {α : Type} (keep : α → Bool) (l zs : List α) (i j : Nat) : Prop :=
  zs.length = l.length ∧ i < j ∧ j ≤ l.length ∧ zs.take i = (l.take j).filter keep ∧ ∀ k, j ≤ k → zs[k]? = l[k]?
theorem KeptI.start {α : Type} {keep : α → Bool} {l : List α} {i : Nat} {x : α} (hx : l[i]? = some x) (hq : keep x = false) (hall : ∀ y ∈ l.take i, keep y = true) : KeptI keep l l i (i + 1) := by
  have hi := (List.getElem?_eq_some_iff.1 hx).1
  refine ⟨rfl, by omega, by omega, ?_, fun _ _ => rfl⟩
  rw [List.take_add_one, hx, List.filter_append, List.filter_eq_self.2 hall]
  simp [hq]
theorem KeptI.keep {α : Type} {keep : α → Bool} {l zs : List α} {i j : Nat} {x : α} (h : KeptI keep l zs i j) (hx : l[j]? = some x) (hq : keep x = true) : KeptI keep l (zs.set i x) (i + 1) (j + 1) := by
  obtain ⟨h1, h2, h3, h4, h5⟩ := h
  have hj := (List.getElem?_eq_some_iff.1 hx).1
  refine ⟨by simpa using h1, by omega, by omega, ?_, fun k hk => ?_⟩
  · rw [List.take_add_one, List.take_add_one, hx, List.filter_append, ← h4]
    have e1 : (zs.set i x).take i = zs.take i := by
      apply List.ext_getElem?
      intro k
      by_cases hk : k < i
      · rw [List.getElem?_take_of_lt hk, List.getElem?_take_of_lt hk, List.getElem?_set_ne (by omega)]
      · rw [List.getElem?_take, List.getElem?_take, if_neg hk, if_neg hk]
    rw [e1, List.getElem?_set_self (by omega)]
    simp [hq]
  · rw [List.getElem?_set_ne (by omega)]; exact h5 k (by omega)
theorem KeptI.drop {α : Type} {keep : α → Bool} {l zs : List α} {i j : Nat} {x : α} (h : KeptI keep l zs i j) (hx : l[j]? = some x) (hq : keep x = false) : KeptI keep l zs i (j + 1) := by
  obtain ⟨h1, h2, h3, h4, h5⟩ := h
  have hj := (List.getElem?_eq_some_iff.1 hx).1
  refine ⟨h1, by omega, by omega, ?_, fun k hk => h5 k (by omega)⟩
  rw [List.take_add_one, hx, List.filter_append, ← h4]
  simp [hq]
theorem KeptI.done {α : Type} {keep : α → Bool} {l zs : List α} {i j : Nat} (h : KeptI keep l zs i j) (hj : j = l.length) : zs.take i = l.filter keep ∧ (l.filter keep).length = i := by
  obtain ⟨h1, h2, h3, h4, h5⟩ := h
  rw [hj, List.take_length] at h4
  refine ⟨h4, ?_⟩
  rw [← h4, List.length_take]; omega

theorem flat_take {α : Type} {enc : α → List Value} {sz : Nat} (he : ∀ x, (enc x).length = sz) : ∀ (xs : List α) (i : Nat), (flat enc xs).take (i * sz) = flat enc (xs.take i)
  | [], i => by simp [flat]
  | x :: xs, 0 => by simp [flat]
  | x :: xs, i + 1 => by
    rw [List.take_succ_cons, flat_cons, flat_cons, List.take_append, he x, ← flat_take he xs i, List.take_of_length_le (by rw [he x]; rw [Nat.add_mul]; omega)]
    congr 2
    rw [Nat.add_mul]; omega
theorem flat_set2 {ys : List (Int × Bool)} : ∀ {i : Nat}, i < ys.length → ∀ (t : Int) (f : Bool), flat symC (ys.set i (t, f)) = ((flat symC ys).set (i * 2) (.int .i64 t)).set (i * 2 + 1) (.bool f) := by
  induction ys with
  | nil => intro i h; simp at h
  | cons y ys ih =>
    intro i h t f
    cases i with
    | zero => rfl
    | succ i =>
      rw [List.set_cons_succ, flat_cons, flat_cons, ih (by simpa using h)]
      have e : (i + 1) * 2 = i * 2 + 1 + 1 := by omega
      rw [e]
      rfl

theorem own_take {w : World} {base : Nat} {E : TypeId} {sz g n c : Nat} {xs : List Value} (h : w.ownsRow base E sz (.slice (some ⟨g, 0, none⟩) n c) n xs) {i : Nat} (hi : i ≤ n) :
    w.ownsRow base E sz (.slice (some ⟨g, 0, none⟩) i c) i (xs.take (i * sz)) := by
  have hm : i * sz ≤ n * sz := Nat.mul_le_mul_right _ hi
  rcases h.2 with ⟨h', _⟩ | ⟨g', cap', cur, h', hb, hg, hnc, hcm, hcs, htake⟩
  · simp at h'
  · simp only [Value.slice.injEq, Option.some.injEq, Addr.mk.injEq, and_true, true_and] at h'
    obtain ⟨rfl, rfl⟩ := h'
    refine ⟨by rw [List.length_take, h.1]; omega, .inr ⟨g, c, cur, rfl, hb, hg, by omega, hcm, hcs, ?_⟩⟩
    rw [← htake, List.take_take, Nat.min_eq_left hm]
theorem own_beyond {w : World} {base : Nat} {E : TypeId} {sz g n c : Nat} {xs : List Value} (h : w.ownsRow base E sz (.slice (some ⟨g, 0, none⟩) n c) n xs) {j : Nat} (hj : n * sz ≤ j) (u : Value) :
    (w.setCell ⟨g, j, none⟩ u).ownsRow base E sz (.slice (some ⟨g, 0, none⟩) n c) n xs := by
  have := (h.stored j u).1
  rwa [List.set_eq_of_length_le (by rw [h.1]; exact hj)] at this
theorem own_beyonds {base : Nat} {E : TypeId} {sz g n c : Nat} {xs : List Value} : ∀ (us : List Value) (j : Nat) (w : World), w.ownsRow base E sz (.slice (some ⟨g, 0, none⟩) n c) n xs → n * sz ≤ j →
    (w.setCells g j us).ownsRow base E sz (.slice (some ⟨g, 0, none⟩) n c) n xs
  | [], _, _, h, _ => h
  | u :: us, j, w, h, hj => own_beyonds us (j + 1) _ (own_beyond h hj u) (by omega)
theorem below_setCells {B g : Nat} {w0 : World} (hg : B ≤ g) : ∀ (us : List Value) (j : Nat) (w : World), Below B w0 w → Below B w0 (w.setCells g j us)
  | [], _, _, h => h
  | u :: us, j, _, h => below_setCells hg us (j + 1) _ (h.setCell hg u)
theorem owns_slice_at {w : World} {base : Nat} {E : TypeId} {sz n c : Nat} {A : Option Addr} {xs : List Value} (h : w.ownsRow base E sz (.slice A n c) n xs) (h0 : 0 < n) : ∃ g, A = some ⟨g, 0, none⟩ ∧ n ≤ c ∧ c ≤ maxLen := by
  rcases h.2 with ⟨_, h0'⟩ | ⟨ga, cap, _, h1, _, _, h2, h3, _⟩
  · omega
  · injection h1 with h1 h4 h5
    subst h5
    exact ⟨ga, h1, h2, h3⟩

theorem zeroCells_sym (n : Nat) : ∀ v ∈ (Builtin.zeroCells #[.int .i64 0, .bool false] n).toList, v.oneCell' = true := by
  intro v hv
  unfold Builtin.zeroCells at hv
  rw [Array.toList_map, List.mem_map] at hv
  obtain ⟨i, _, rfl⟩ := hv
  have : i % #[Value.int .i64 0, Value.bool false].size < 2 := Nat.mod_lt _ (by simp)
  generalize i % #[Value.int .i64 0, Value.bool false].size = k at this
  rcases (by omega : k = 0 ∨ k = 1) with rfl | rfl <;> rfl
theorem zeroCells_len (z : Array Value) (n : Nat) : (Builtin.zeroCells z n).toList.length = n * z.size := by simp [Builtin.zeroCells]
theorem run_clear_row {P : Program} (w : World) (t e ty : TypeId) (z : Value) (ht : P.underlying t = some (.slice e)) (hv : ∀ w, (zeroValue e).run P w = .ok z w) (b o n c : Nat) (hn : 0 < n) (h1 : ∀ v ∈ (Builtin.zeroCells z.cells n).toList, v.oneCell' = true)
    (hc : ∀ j, j < n * z.cells.size → (w.cell? ⟨b, o + j, none⟩).isSome = true) (hf : ∀ j, j < n * z.cells.size → w.frozen? ⟨b, o + j, none⟩ = false) :
    (Builtin.clear_ #[t] ty #[.slice (some ⟨b, o, none⟩) n c]).run P w = .ok (.tuple #[]) (w.setCells b o (Builtin.zeroCells z.cells n).toList) := by
  have hst := run_storeCells_cells (P := P) b o (Builtin.zeroCells z.cells n).toList 0 w (by rw [zeroCells_len]; simpa using hc) (by rw [zeroCells_len]; simpa using hf) h1
  simp only [Nat.add_zero] at hst
  obtain ⟨m, rfl⟩ : ∃ m, n = m + 1 := ⟨n - 1, by omega⟩
  simp [Builtin.clear_, run_underlying ht, hv, hst]
end Go.Proofs.Ytoafldgngbaddaa

/- InWedge, FoldPoint, plus: the program's. -/
namespace Go.Proofs.Ytoafldgngbaddaa
open Go.RowKit
attribute [local go_sem] run_store_float run_store_complex

abbrev Pt := Nat × Nat
def plusP (a b : Pt) : Pt := (addB a.1 b.1, addB a.2 b.2)
def sideB (kind : Int) (p : Pt) : Bool := if kind = 0 then true else if kind = 1 then geB p.2 0 else if kind = 2 then geB p.1 0 && geB p.2 0 else if kind = 3 then leB 0 p.2 && leB p.2 p.1 else false
def wedgeB (kind : Int) (p : Pt) : Bool := pointB p.1 p.2 && sideB kind p

theorem plus_any (a b : Pt) (w : World) :
    Calls Try.prog 77 #[.complex .f32 a.1 a.2, .complex .f32 b.1 b.2] w fun e w' => e = .returned (.complex .f32 (plusP a b).1 (plusP a b).2) ∧ Dr w w' := by
  go_enter Try.func77, Try.ntmps77
  go_wp2_with fail
  refine (sum_any _ _ _).mono ?_
  rintro e w' ⟨rfl, n, rfl⟩
  go_wp2_with fail
  refine (sum_any _ _ _).mono ?_
  rintro e w' ⟨rfl, k, rfl⟩
  go_wp2
  go_ret
  exact ⟨rfl, n + k, rfl⟩

set_option maxHeartbeats 2000000 in
theorem inWedge_any (kind : Int) (p : Pt) (w : World) :
    Calls Try.prog 84 #[.int .i64 kind, .complex .f32 p.1 p.2] w fun e w' => e = .returned (.bool (wedgeB kind p)) ∧ w = w' := by
  cases h0 : pointB p.1 p.2
  · have R := Lib.hid (show wedgeB kind p = false by unfold wedgeB; rw [h0]; rfl)
    go_enter Try.func84, Try.ntmps84
    go_wp2_with (go_at_call 68; refine (isPoint_any _ _ _).mono ?_; rintro e w' ⟨rfl, rfl⟩; simp only [h0])
    go_ret
    exact ⟨by rw [R.out]; rfl, rfl⟩
  · have R := Lib.hid (show wedgeB kind p = sideB kind p by unfold wedgeB; rw [h0]; rfl)
    by_cases k0 : kind = 0
    · subst k0
      go_enter Try.func84, Try.ntmps84
      go_wp2_with (go_at_call 68; refine (isPoint_any _ _ _).mono ?_; rintro e w' ⟨rfl, rfl⟩; simp only [h0])
      go_ret
      exact ⟨by rw [R.out]; rfl, rfl⟩
    · by_cases k1 : kind = 1
      · subst k1
        go_enter Try.func84, Try.ntmps84
        go_wp2_with (go_at_call 68; refine (isPoint_any _ _ _).mono ?_; rintro e w' ⟨rfl, rfl⟩; simp only [h0])
        go_ret
        exact ⟨by rw [R.out]; rfl, rfl⟩
      · by_cases k2 : kind = 2
        · subst k2
          cases h1 : geB p.1 0
          all_goals
            have S := Lib.hid (show sideB 2 p = (geB p.1 0 && geB p.2 0) from rfl)
            have e1 : (FloatKind.f32.format.order p.1 0 == some .gt || FloatKind.f32.format.order p.1 0 == some .eq) = geB p.1 0 := rfl
            rw [h1] at e1
            have H1 := Lib.hid h1
            clear h1
            go_enter Try.func84, Try.ntmps84
            go_wp2_with (go_at_call 68; refine (isPoint_any _ _ _).mono ?_; rintro e w' ⟨rfl, rfl⟩; simp only [h0])
            go_ret
            exact ⟨by rw [R.out, S.out, H1.out]; rfl, rfl⟩
        · by_cases k3 : kind = 3
          · subst k3
            cases h1 : leB 0 p.2
            all_goals
              have S := Lib.hid (show sideB 3 p = (leB 0 p.2 && leB p.2 p.1) from rfl)
              have e1 : (FloatKind.f32.format.order 0 p.2 == some .lt || FloatKind.f32.format.order 0 p.2 == some .eq) = leB 0 p.2 := rfl
              rw [h1] at e1
              have H1 := Lib.hid h1
              clear h1
              go_enter Try.func84, Try.ntmps84
              go_wp2_with (go_at_call 68; refine (isPoint_any _ _ _).mono ?_; rintro e w' ⟨rfl, rfl⟩; simp only [h0])
              go_ret
              exact ⟨by rw [R.out, S.out, H1.out]; rfl, rfl⟩
          · have S := Lib.hid (show sideB kind p = false by simp [sideB, k0, k1, k2, k3])
            go_enter Try.func84, Try.ntmps84
            go_wp2_with (go_at_call 68; refine (isPoint_any _ _ _).mono ?_; rintro e w' ⟨rfl, rfl⟩; simp only [h0])
            go_ret
            exact ⟨by rw [R.out, S.out]; rfl, rfl⟩

def foldG (kind : Int) (z : Pt) (l : List (Int × Bool)) : Pt × (Int × Bool) × Bool := match l.find? (fun g => wedgeB kind (actP g.1 g.2 z.1 z.2)) with
  | some g => (actP g.1 g.2 z.1 z.2, g, true)
  | none => ((0, 0), (0, false), false)
def foldP (kind : Int) (z : Pt) : Pt × (Int × Bool) × Bool := if pointB z.1 z.2 then foldG kind z (symsL kind) else ((0, 0), (0, false), false)
theorem foldG_hit {kind : Int} {z : Pt} {l : List (Int × Bool)} {k : Nat} {g : Int × Bool} (hx : l[k]? = some g) (hall : ∀ (i : Nat) y, i < k → l[i]? = some y → wedgeB kind (actP y.1 y.2 z.1 z.2) = false) (h : wedgeB kind (actP g.1 g.2 z.1 z.2) = true) : foldG kind z l = (actP g.1 g.2 z.1 z.2, g, true) := by
  unfold foldG
  have : l.find? (fun g => wedgeB kind (actP g.1 g.2 z.1 z.2)) = some g := by
    have hk := (List.getElem?_eq_some_iff.1 hx)
    obtain ⟨hk1, hk2⟩ := hk
    rw [List.find?_eq_some_iff_getElem]
    exact ⟨h, k, hk1, hk2, fun j hj => by simpa using hall j _ hj (List.getElem?_eq_getElem (by omega))⟩
  rw [this]
theorem foldG_miss {kind : Int} {z : Pt} {l : List (Int × Bool)} (hall : ∀ (i : Nat) y, l[i]? = some y → wedgeB kind (actP y.1 y.2 z.1 z.2) = false) : foldG kind z l = ((0, 0), (0, false), false) := by
  unfold foldG
  have : l.find? (fun g => wedgeB kind (actP g.1 g.2 z.1 z.2)) = none := by
    rw [List.find?_eq_none]
    intro x hx
    obtain ⟨i, hi⟩ := List.getElem?_of_mem hx
    simp [hall i x hi]
  rw [this]
def foldV (r : Pt × (Int × Bool) × Bool) : Value := .tuple #[.complex .f32 r.1.1 r.1.2, .agg #[.int .i64 r.2.1.1, .bool r.2.1.2], .bool r.2.2]

set_option maxRecDepth 100000 in
set_option maxHeartbeats 4000000 in
theorem foldPoint_any (kind : Int) (z : Pt) (w : World) :
    Calls Try.prog 73 #[.int .i64 kind, .complex .f32 z.1 z.2] w fun e w' => e = .returned (foldV (foldP kind z)) ∧ Below w.heap.size w w' := by
  cases h0 : pointB z.1 z.2
  · have R := Lib.hid (show foldP kind z = ((0, 0), (0, false), false) by unfold foldP; rw [h0]; rfl)
    go_enter Try.func73, Try.ntmps73
    go_wp2_with (go_at_call 68; refine (isPoint_any _ _ _).mono ?_; rintro e w' ⟨rfl, rfl⟩; simp only [h0])
    exact bodyPost_ret (v := foldV ((0, 0), (0, false), false)) (by simp [results, Try.results73, go_sem, foldV]) rfl ⟨by rw [R.out], by (repeat (first | with_reducible assumption | exact Below.refl _ _ | (refine Below.setCell ?_ (by first | exact Nat.le_refl _ | (simp; done) | omega | (simp; omega)) _) | (refine below_drewN ?_ _) | (refine Below.drew ?_) | (refine Below.alloc ?_ (by first | exact Nat.le_refl _ | (simp; done) | omega | (simp; omega)) _) | (refine then_ ?_ (by with_reducible assumption)) | assumption | (refine then_ ?_ (by assumption))))⟩
  · obtain ⟨l, hl⟩ : ∃ l, l = symsL kind := ⟨_, rfl⟩
    have h8 : l.length ≤ 8 := by rw [hl]; exact symsUp_len _ _
    have ks := fun w => symsOf_any kind w
    have R := Lib.hid (show foldP kind z = foldG kind z l by unfold foldP; rw [h0, hl]; rfl)
    rw [← hl] at ks
    have KS := Lib.hid ks
    clear ks hl
    go_enter Try.func73, Try.ntmps73
    go_wp2_with (go_at_call 68; refine (isPoint_any _ _ _).mono ?_; rintro e w' ⟨rfl, rfl⟩; simp only [h0])
    obtain ⟨W, hWe⟩ : ∃ W, W = w.alloc (Obj.cells #[.int .i64 0, .bool false] 99) := ⟨_, rfl⟩
    have hW : Below w.heap.size w W := by rw [hWe]; (repeat (first | with_reducible assumption | exact Below.refl _ _ | (refine Below.setCell ?_ (by first | exact Nat.le_refl _ | (simp; done) | omega | (simp; omega)) _) | (refine below_drewN ?_ _) | (refine Below.drew ?_) | (refine Below.alloc ?_ (by first | exact Nat.le_refl _ | (simp; done) | omega | (simp; omega)) _) | (refine then_ ?_ (by with_reducible assumption)) | assumption | (refine then_ ?_ (by assumption))))
    have zW : w.heap.size < W.heap.size := by rw [hWe]; simp
    have q0 : W.cell? ⟨w.heap.size, 0, none⟩ = some (.int .i64 0) := by rw [hWe]; simp [go_sem]
    have q1 : W.cell? ⟨w.heap.size, 1, none⟩ = some (.bool false) := by rw [hWe]; simp [go_sem]
    have f0 : W.frozen? ⟨w.heap.size, 0, none⟩ = false := by rw [hWe]; simp [go_sem]
    have f1 : W.frozen? ⟨w.heap.size, 1, none⟩ = false := by rw [hWe]; simp [go_sem]
    rw [← hWe]
    clear hWe
    refine (KS.out _).mono ?_
    rintro e w1 ⟨G, cG, rfl, ho1, hb1⟩
    have r1 := Rd.of_own symC_len rfl ho1
    have f0 := keepF q0 f0 hb1
    have f1 := keepF q1 f1 hb1
    have q0 := keepC q0 hb1
    have q1 := keepC q1 hb1
    have hW1 := then_ hW hb1
    have lw : w.heap.size < w1.heap.size := World.block_lt_of_cell? _ _ q0
    clear ho1 hb1 hW
    go_wp2_with fail
    go_loopw [17] (fun i wr => ∃ k : Nat, k ≤ l.length ∧ i = .int .i64 k ∧ (∀ (i : Nat) y, i < k → l[i]? = some y → wedgeB kind (actP y.1 y.2 z.1 z.2) = false) ∧ Below w1.heap.size w1 wr) (fun i _ => l.length - (intOf i).toNat)
    case atStart => exact ⟨0, Nat.zero_le _, rfl, fun i y h => by omega, Below.refl _ _⟩
    case round =>
      obtain ⟨k, hk, rfl, hall, hw⟩ := hrel
      have HALL := Lib.hid hall
      have f0 := keepF q0 f0 hw
      have f1 := keepF q1 f1 hw
      have q0 := keepC q0 hw
      have q1 := keepC q1 hw
      have hWr := then_ hW1 hw
      clear hall
      by_cases hlt : k < l.length
      · obtain ⟨b, off, t, f, rfl, hbl, hx, c0, c1⟩ := (r1.below hw).sym hlt
        have HX := Lib.hid hx
        have hki : (k : Int) < (l.length : Int) := by omega
        have hk0 : (0 : Int) ≤ (k : Int) := by omega
        obtain ⟨q, hq⟩ : ∃ q, q = actP t f z.1 z.2 := ⟨_, rfl⟩
        have HQ := Lib.hid hq
        have ka := fun w => actSym_any t f z.1 z.2 w
        rw [← hq] at ka
        have KA := Lib.hid ka
        clear hx ka hq
        go_wp2_with fail
        obtain ⟨V, hVe⟩ : ∃ V, V = wr.alloc (Obj.cells #[.int .i64 t, .bool f] 99) := ⟨_, rfl⟩
        have hV : Below wr.heap.size wr V := by rw [hVe]; (repeat (first | with_reducible assumption | exact Below.refl _ _ | (refine Below.setCell ?_ (by first | exact Nat.le_refl _ | (simp; done) | omega | (simp; omega)) _) | (refine below_drewN ?_ _) | (refine Below.drew ?_) | (refine Below.alloc ?_ (by first | exact Nat.le_refl _ | (simp; done) | omega | (simp; omega)) _) | (refine then_ ?_ (by with_reducible assumption)) | assumption | (refine then_ ?_ (by assumption))))
        have v0 : V.cell? ⟨wr.heap.size, 0, none⟩ = some (.int .i64 t) := by rw [hVe]; simp [go_sem]
        have v1 : V.cell? ⟨wr.heap.size, 1, none⟩ = some (.bool f) := by rw [hVe]; simp [go_sem]
        have hne : ¬ wr.heap.size = w.heap.size := by have := World.block_lt_of_cell? _ _ q0; dsimp only at this; omega
        have hne' : ¬ w.heap.size = wr.heap.size := fun e => hne e.symm
        rw [← hVe]
        clear hVe
        refine (KA.out _).mono ?_
        rintro e w2 ⟨rfl, hb2⟩
        have f0 := keepF (keepC q0 hV) (keepF q0 f0 hV) hb2
        have f1 := keepF (keepC q1 hV) (keepF q1 f1 hV) hb2
        have q0 := keepC (keepC q0 hV) hb2
        have q1 := keepC (keepC q1 hV) hb2
        have v0 := keepC v0 hb2
        have v1 := keepC v1 hb2
        have hB2 := then_ (then_ hw hV) hb2
        have hW2 := then_ hW1 hB2
        simp only [cxV]
        clear hV hb2 c0 c1
        go_wp2_with fail
        refine (inWedge_any kind q _).mono ?_
        cases hc : wedgeB kind q
        · rintro e w' ⟨rfl, rfl⟩
          have HC := Lib.hid hc
          clear hc
          go_wp2
          go_roundw
          case rel =>
            refine ⟨k + 1, by omega, by go_num, fun i y hi j1 => ?_, hB2⟩
            by_cases e : i = k
            · subst e
              rw [HX.out] at j1
              injection j1 with j1
              subst j1
              show wedgeB kind (actP t f z.1 z.2) = false
              rw [← HQ.out]
              exact HC.out
            · exact HALL.out i y (by omega) j1
          case measure => simp [intOf]; omega
        · rintro e w' ⟨rfl, rfl⟩
          have HF := Lib.hid (foldG_hit (z := z) HX.out HALL.out (show wedgeB kind (actP t f z.1 z.2) = true by rw [← HQ.out]; exact hc))
          clear hc
          go_wp2_with fail
          go_region_law (fail)
          all_goals
            go_wp2
            exact bodyPost_ret (v := foldV (q, (t, f), true)) (by simp [results, Try.results73, go_sem, foldV, *]) rfl ⟨by rw [R.out, HF.out, HQ.out], by (repeat (first | with_reducible assumption | exact Below.refl _ _ | (refine Below.setCell ?_ (by first | exact Nat.le_refl _ | (simp; done) | omega | (simp; omega)) _) | (refine below_drewN ?_ _) | (refine Below.drew ?_) | (refine Below.alloc ?_ (by first | exact Nat.le_refl _ | (simp; done) | omega | (simp; omega)) _) | (refine then_ ?_ (by with_reducible assumption)) | assumption | (refine then_ ?_ (by assumption))))⟩
      · obtain rfl : k = l.length := by omega
        have HF := Lib.hid (foldG_miss (z := z) (fun i y h1 => HALL.out i y (List.getElem?_eq_some_iff.1 h1).1 h1))
        go_wp2
        exact bodyPost_ret (v := foldV ((0, 0), (0, false), false)) (by simp [results, Try.results73, go_sem, foldV, *]) rfl ⟨by rw [R.out, HF.out], by (repeat (first | with_reducible assumption | exact Below.refl _ _ | (refine Below.setCell ?_ (by first | exact Nat.le_refl _ | (simp; done) | omega | (simp; omega)) _) | (refine below_drewN ?_ _) | (refine Below.drew ?_) | (refine Below.alloc ?_ (by first | exact Nat.le_refl _ | (simp; done) | omega | (simp; omega)) _) | (refine then_ ?_ (by with_reducible assumption)) | assumption | (refine then_ ?_ (by assumption))))⟩
end Go.Proofs.Ytoafldgngbaddaa

/- Beads and tumbles: IsTumble, Clone, cloneTumble; the program's. -/
namespace Go.Proofs.Ytoafldgngbaddaa
open Go.RowKit
attribute [local go_sem] run_store_float run_store_complex

abbrev Bd := Pt × Pt
def bdC (b : Bd) : List Value := [.complex .f32 b.1.1 b.1.2, .complex .f32 b.2.1 b.2.2]
theorem bdC_len (b : Bd) : (bdC b).length = 2 := rfl
def bdV (b : Bd) : Value := .agg #[.complex .f32 b.1.1 b.1.2, .complex .f32 b.2.1 b.2.2]
def okBd (mir : Int) (b : Bd) : Bool := wedgeB mir b.1 && pointB b.2.1 b.2.2
def tumB (mir : Int) (gr : Pt) (loss : Nat) (bs : List Bd) : Bool := inB mir 0 3 && (pointB gr.1 gr.2 && (partB loss && (decide (bs.length ≤ 8) && bs.all (okBd mir))))
theorem Rd.bd {w : World} {B : Nat} {A : Option Addr} {n k : Nat} {xs : List Bd} (h : Rd bdC 2 w B A n xs) (hk : k < n) :
    ∃ b off a c, A = some ⟨b, off, none⟩ ∧ b < B ∧ xs[k]? = some (a, c) ∧ w.cell? ⟨b, off + k * 2, none⟩ = some (.complex .f32 a.1 a.2) ∧ w.cell? ⟨b, off + k * 2 + 1, none⟩ = some (.complex .f32 c.1 c.2) := by
  obtain ⟨b, off, ⟨a, c⟩, e, hb, hx, hc⟩ := h.at_ hk
  exact ⟨b, off, a, c, e, hb, hx, hc 0 _ rfl, hc 1 _ rfl⟩

set_option maxHeartbeats 2000000 in
theorem tumF_any (a v : Pt) (g : Nat) (mir : Int) (w : World) (h0 : w.cell? ⟨g, 0, none⟩ = some (.int .i64 mir)) :
    Calls Try.prog 83 #[.agg #[.complex .f32 a.1 a.2, .complex .f32 v.1 v.2], .pointer (some ⟨g, 0, none⟩)] w fun e w' => e = .returned (.bool (!(okBd mir (a, v)))) ∧ Below w.heap.size w w' := by
  have lb := World.block_lt_of_cell? _ _ h0
  dsimp only at lb
  have n1 : ¬ w.heap.size = g := by omega
  have n2 : ¬ g = w.heap.size := by omega
  cases h1 : wedgeB mir a
  · have R := Lib.hid (show okBd mir (a, v) = false by unfold okBd; rw [h1]; rfl)
    go_enter Try.func83, Try.ntmps83
    go_wp2_with (go_at_call 84; refine (inWedge_any _ _ _).mono ?_; rintro e w' ⟨rfl, rfl⟩; simp only [h1])
    go_ret
    exact ⟨by rw [R.out]; rfl, by (repeat (first | with_reducible assumption | exact Below.refl _ _ | (refine Below.setCell ?_ (by first | exact Nat.le_refl _ | (simp; done) | omega | (simp; omega)) _) | (refine below_drewN ?_ _) | (refine Below.drew ?_) | (refine Below.alloc ?_ (by first | exact Nat.le_refl _ | (simp; done) | omega | (simp; omega)) _) | (refine then_ ?_ (by with_reducible assumption)) | assumption | (refine then_ ?_ (by assumption))))⟩
  · have R := Lib.hid (show okBd mir (a, v) = pointB v.1 v.2 by unfold okBd; rw [h1]; rfl)
    go_enter Try.func83, Try.ntmps83
    go_wp2_with (first
      | (go_at_call 84; refine (inWedge_any _ _ _).mono ?_; rintro e w' ⟨rfl, rfl⟩; simp only [h1])
      | (go_at_call 68; refine (isPoint_any _ _ _).mono ?_; rintro e w' ⟨rfl, rfl⟩))
    go_ret
    exact ⟨by rw [R.out]; rfl, by (repeat (first | with_reducible assumption | exact Below.refl _ _ | (refine Below.setCell ?_ (by first | exact Nat.le_refl _ | (simp; done) | omega | (simp; omega)) _) | (refine below_drewN ?_ _) | (refine Below.drew ?_) | (refine Below.alloc ?_ (by first | exact Nat.le_refl _ | (simp; done) | omega | (simp; omega)) _) | (refine then_ ?_ (by with_reducible assumption)) | assumption | (refine then_ ?_ (by assumption))))⟩

theorem allX_no {α : Type} {ls : List α} {p : α → Bool} {i : Nat} {x : α} (hx : ls[i]? = some x) (h : p x = false) : ls.all p = false := by
  rw [List.all_eq_false]
  exact ⟨x, List.mem_of_getElem? hx, by simp [h]⟩
theorem allX_yes {α : Type} {ls : List α} {p : α → Bool} (h : ∀ (i : Nat) x, ls[i]? = some x → p x = true) : ls.all p = true := by
  rw [List.all_eq_true]
  intro x hx
  obtain ⟨i, hi⟩ := List.getElem?_of_mem hx
  exact h i x hi

set_option maxRecDepth 100000 in
set_option maxHeartbeats 4000000 in
theorem indexBd_any (g : Nat) (mir : Int) (H : Option Addr) (p pc : Nat) (ls : List Bd) (w : World) (hp : p ≤ 1048576) (h0 : w.cell? ⟨g, 0, none⟩ = some (.int .i64 mir)) (hs : Rd bdC 2 w w.heap.size H p ls) :
    Calls Try.prog 109 #[.slice H p pc, .func (.func 83) #[] #[.pointer (some ⟨g, 0, none⟩)]] w fun e w' => (∃ i : Int, e = .returned (.int .i64 i) ∧ decide (0 ≤ i) = !(ls.all (okBd mir))) ∧ Below w.heap.size w w' := by
  go_enter Try.func109, Try.ntmps109
  go_wp2
  go_loopw [5, 8] (fun _ i wr => ∃ k : Nat, k ≤ p ∧ i = .int .i64 k ∧ (∀ (i : Nat) x, i < k → ls[i]? = some x → okBd mir x = true) ∧ Below w.heap.size w wr) (fun _ i _ => p - (intOf i).toNat)
  case atStart => exact ⟨0, Nat.zero_le _, rfl, fun i x h => by omega, Below.refl _ _⟩
  case round =>
    obtain ⟨k, hk, rfl, hall, hw⟩ := hrel
    have HALL := Lib.hid hall
    clear hall
    by_cases hlt : k < p
    · obtain ⟨bb, off, a, v, rfl, hbl, hx, c0, c1⟩ := (hs.below hw).bd hlt
      have hki : (k : Int) < (p : Int) := by omega
      have hk0 : (0 : Int) ≤ (k : Int) := by omega
      have HX := Lib.hid hx
      clear hx
      have d0 := keepC h0 hw
      cases hq : okBd mir (a, v)
      · go_wp2_with (go_at_call 83; refine (tumF_any a v g mir _ (by assumption)).mono ?_; rintro e w1 ⟨rfl, hb1⟩; simp only [hq])
        go_ret
        exact ⟨⟨_, rfl, by rw [allX_no HX.out hq]; simp⟩, by (repeat (first | with_reducible assumption | exact Below.refl _ _ | (refine Below.setCell ?_ (by first | exact Nat.le_refl _ | (simp; done) | omega | (simp; omega)) _) | (refine below_drewN ?_ _) | (refine Below.drew ?_) | (refine Below.alloc ?_ (by first | exact Nat.le_refl _ | (simp; done) | omega | (simp; omega)) _) | (refine then_ ?_ (by with_reducible assumption)) | assumption | (refine then_ ?_ (by assumption))))⟩
      · go_wp2_with (go_at_call 83; refine (tumF_any a v g mir _ (by assumption)).mono ?_; rintro e w1 ⟨rfl, hb1⟩; simp only [hq])
        go_roundw
        case rel =>
          refine ⟨k + 1, by omega, by go_num, fun i x hi j1 => ?_, by (repeat (first | with_reducible assumption | exact Below.refl _ _ | (refine Below.setCell ?_ (by first | exact Nat.le_refl _ | (simp; done) | omega | (simp; omega)) _) | (refine below_drewN ?_ _) | (refine Below.drew ?_) | (refine Below.alloc ?_ (by first | exact Nat.le_refl _ | (simp; done) | omega | (simp; omega)) _) | (refine then_ ?_ (by with_reducible assumption)) | assumption | (refine then_ ?_ (by assumption))))⟩
          by_cases e : i = k
          · subst e
            rw [HX.out] at j1
            injection j1 with j1
            subst j1
            exact hq
          · exact HALL.out i x (by omega) j1
        case measure => simp [intOf]; omega
    · obtain rfl : k = p := by omega
      have ht : ls.all (okBd mir) = true := allX_yes (fun i x h1 => HALL.out i x (by have := (List.getElem?_eq_some_iff.1 h1).1; have := hs.1; omega) h1)
      go_wp2
      go_ret
      exact ⟨⟨-1, rfl, by rw [ht]; rfl⟩, hw⟩

theorem containsBd_any (g : Nat) (mir : Int) (H : Option Addr) (p pc : Nat) (ls : List Bd) (w : World) (hp : p ≤ 1048576) (h0 : w.cell? ⟨g, 0, none⟩ = some (.int .i64 mir)) (hs : Rd bdC 2 w w.heap.size H p ls) :
    Calls Try.prog 82 #[.slice H p pc, .func (.func 83) #[] #[.pointer (some ⟨g, 0, none⟩)]] w fun e w' => e = .returned (.bool (!(ls.all (okBd mir)))) ∧ Below w.heap.size w w' := by
  go_enter Try.func82, Try.ntmps82
  go_wp2_with (go_at_call 109; refine (indexBd_any g mir H p pc ls _ hp h0 hs).mono ?_; rintro e w1 ⟨⟨i, rfl, hi⟩, hb1⟩; have HI := Lib.hid hi; clear hi)
  go_ret
  exact ⟨by rw [← HI.out]; rfl, hb1⟩

/-- IsTumble of a tumble of at most eight beads -/
theorem isTumble_any (mir : Int) (gr : Pt) (loss : Nat) (A : Option Addr) (n c : Nat) (bs : List Bd) (w : World) (hn : n ≤ 8) (ha : Rd bdC 2 w w.heap.size A n bs) :
    Calls Try.prog 41 #[.agg #[.int .i64 mir, .complex .f32 gr.1 gr.2, .float .f32 loss, .slice A n c]] w fun e w' => e = .returned (.bool (tumB mir gr loss bs)) ∧ Below w.heap.size w w' := by
  have h8 : decide (bs.length ≤ 8) = true := by have := ha.1; simp; omega
  cases h1 : inB mir 0 3
  · have R := Lib.hid (show tumB mir gr loss bs = false by unfold tumB; rw [h1]; rfl)
    go_enter Try.func41, Try.ntmps41
    go_wp2_with (go_at_call 69; refine (isKind_any _ _).mono ?_; rintro e w' ⟨rfl, rfl⟩; simp only [h1])
    go_ret
    exact ⟨by rw [R.out]; rfl, by (repeat (first | with_reducible assumption | exact Below.refl _ _ | (refine Below.setCell ?_ (by first | exact Nat.le_refl _ | (simp; done) | omega | (simp; omega)) _) | (refine below_drewN ?_ _) | (refine Below.drew ?_) | (refine Below.alloc ?_ (by first | exact Nat.le_refl _ | (simp; done) | omega | (simp; omega)) _) | (refine then_ ?_ (by with_reducible assumption)) | assumption | (refine then_ ?_ (by assumption))))⟩
  · cases h2 : pointB gr.1 gr.2
    · have R := Lib.hid (show tumB mir gr loss bs = false by unfold tumB; rw [h1, h2]; rfl)
      go_enter Try.func41, Try.ntmps41
      go_wp2_with (first
        | (go_at_call 69; refine (isKind_any _ _).mono ?_; rintro e w' ⟨rfl, rfl⟩; simp only [h1])
        | (go_at_call 68; refine (isPoint_any _ _ _).mono ?_; rintro e w' ⟨rfl, rfl⟩; simp only [h2]))
      go_ret
      exact ⟨by rw [R.out]; rfl, by (repeat (first | with_reducible assumption | exact Below.refl _ _ | (refine Below.setCell ?_ (by first | exact Nat.le_refl _ | (simp; done) | omega | (simp; omega)) _) | (refine below_drewN ?_ _) | (refine Below.drew ?_) | (refine Below.alloc ?_ (by first | exact Nat.le_refl _ | (simp; done) | omega | (simp; omega)) _) | (refine then_ ?_ (by with_reducible assumption)) | assumption | (refine then_ ?_ (by assumption))))⟩
    · cases h3 : partB loss
      · have R := Lib.hid (show tumB mir gr loss bs = false by unfold tumB; rw [h1, h2, h3]; rfl)
        go_enter Try.func41, Try.ntmps41
        go_wp2_with (first
          | (go_at_call 69; refine (isKind_any _ _).mono ?_; rintro e w' ⟨rfl, rfl⟩; simp only [h1])
          | (go_at_call 68; refine (isPoint_any _ _ _).mono ?_; rintro e w' ⟨rfl, rfl⟩; simp only [h2])
          | (go_at_call 79; refine (isPart_any _ _).mono ?_; rintro e w' ⟨rfl, rfl⟩; simp only [h3]))
        go_ret
        exact ⟨by rw [R.out]; rfl, by (repeat (first | with_reducible assumption | exact Below.refl _ _ | (refine Below.setCell ?_ (by first | exact Nat.le_refl _ | (simp; done) | omega | (simp; omega)) _) | (refine below_drewN ?_ _) | (refine Below.drew ?_) | (refine Below.alloc ?_ (by first | exact Nat.le_refl _ | (simp; done) | omega | (simp; omega)) _) | (refine then_ ?_ (by with_reducible assumption)) | assumption | (refine then_ ?_ (by assumption))))⟩
      · have R := Lib.hid (show tumB mir gr loss bs = bs.all (okBd mir) by unfold tumB; rw [h1, h2, h3, h8]; rfl)
        have hni : ¬ (8 : Int) < (n : Int) := by omega
        go_enter Try.func41, Try.ntmps41
        go_wp2_with (first
          | (go_at_call 69; refine (isKind_any _ _).mono ?_; rintro e w' ⟨rfl, rfl⟩; simp only [h1])
          | (go_at_call 68; refine (isPoint_any _ _ _).mono ?_; rintro e w' ⟨rfl, rfl⟩; simp only [h2])
          | (go_at_call 79; refine (isPart_any _ _).mono ?_; rintro e w' ⟨rfl, rfl⟩; simp only [h3])
          | (go_at_call 82; refine (containsBd_any w.heap.size mir A n c bs _ (by omega) (by simp [go_sem]) (ha.step ?_)).mono ?_; (repeat (first | with_reducible assumption | exact Below.refl _ _ | (refine Below.setCell ?_ (by first | exact Nat.le_refl _ | (simp; done) | omega | (simp; omega)) _) | (refine below_drewN ?_ _) | (refine Below.drew ?_) | (refine Below.alloc ?_ (by first | exact Nat.le_refl _ | (simp; done) | omega | (simp; omega)) _) | (refine then_ ?_ (by with_reducible assumption)) | assumption | (refine then_ ?_ (by assumption)))); rintro e w2 ⟨rfl, hb2⟩))
        go_ret
        exact ⟨by rw [R.out]; simp, by (repeat (first | with_reducible assumption | exact Below.refl _ _ | (refine Below.setCell ?_ (by first | exact Nat.le_refl _ | (simp; done) | omega | (simp; omega)) _) | (refine below_drewN ?_ _) | (refine Below.drew ?_) | (refine Below.alloc ?_ (by first | exact Nat.le_refl _ | (simp; done) | omega | (simp; omega)) _) | (refine then_ ?_ (by with_reducible assumption)) | assumption | (refine then_ ?_ (by assumption))))⟩
theorem infoBd : (Try.prog.info? 103).map (fun i => (i.zero, i.size, i.bytes)) = some (some (.agg #[.complex .f32 0 0, .complex .f32 0 0]), 2, 16) := by kernel_rfl
end Go.Proofs.Ytoafldgngbaddaa

/- Clone of beads, cloneTumble: the program's. -/
namespace Go.Proofs.Ytoafldgngbaddaa
open Go.RowKit
attribute [local go_sem] run_store_float run_store_complex

/-- a read row's cells, one by one -/
theorem Rd.cells {α : Type} {enc : α → List Value} {sz : Nat} (he : ∀ x, (enc x).length = sz) (hsz : 0 < sz) {w : World} {B : Nat} {ad : Addr} {n : Nat} {xs : List α} (h : Rd enc sz w B (some ad) n xs) :
    ∀ j u, (flat enc xs)[j]? = some u → w.cell? (ad.add j) = some u := by
  intro j u hu
  have hj : j < xs.length * sz := by
    have := (List.getElem?_eq_some_iff.1 hu).1
    rwa [flat_length he] at this
  have hn : 0 < n := by
    have := h.1
    rcases Nat.eq_zero_or_pos n with h0 | h0
    · rw [h0] at this; rw [this, Nat.zero_mul] at hj; omega
    · exact h0
  obtain ⟨b, off, e, hb, hc⟩ := h.2 hn
  injection e with e
  subst e
  have hk : j / sz < xs.length := Nat.div_lt_of_lt_mul (by rw [Nat.mul_comm]; exact hj)
  have hx : xs[j / sz]? = some xs[j / sz] := List.getElem?_eq_getElem hk
  have hi : j % sz < (enc xs[j / sz]).length := by rw [he]; exact Nat.mod_lt _ hsz
  have hv : (enc xs[j / sz])[j % sz]? = some (enc xs[j / sz])[j % sz] := List.getElem?_eq_getElem hi
  have h1 := flat_get he xs _ _ hx _ _ hv
  have e2 : j / sz * sz + j % sz = j := by rw [Nat.mul_comm]; exact Nat.div_add_mod j sz
  rw [e2, hu] at h1
  injection h1 with h1
  have h2 := hc _ _ hx _ _ hv
  rw [← h1] at h2
  unfold Addr.add
  split
  · rename_i h0
    subst h0
    simpa using h2
  · show w.cell? ⟨b, off + j, none⟩ = some u
    rw [Nat.add_assoc, e2] at h2
    exact h2
theorem bdC_one (xs : List Bd) : ∀ u ∈ flat bdC xs, u.oneCell' = true := by
  intro u hu
  unfold flat at hu
  obtain ⟨b, _, hb⟩ := List.mem_flatMap.1 hu
  simp [bdC] at hb
  rcases hb with rfl | rfl <;> rfl

set_option maxRecDepth 100000 in
set_option maxHeartbeats 2000000 in
theorem cloneBd_any (A : Option Addr) (n c : Nat) (bs : List Bd) (w : World) (hn : n ≤ 8) (ha : Rd bdC 2 w w.heap.size A n bs) :
    Calls Try.prog 101 #[.slice A n c] w fun e w' => ∃ B d, e = .returned (.slice B n d) ∧ w'.ownsRow w.heap.size 103 2 (.slice B n d) n (flat bdC bs) ∧ Below w.heap.size w w' := by
  obtain ⟨i0, hi, hz0, hz1, hz2⟩ := info_parts infoBd
  cases A with
  | none =>
    have h0 : n = 0 := by
      rcases Nat.eq_zero_or_pos n with h | h
      · exact h
      · obtain ⟨b, off, e, _⟩ := ha.2 h; cases e
    subst h0
    have hb : bs = [] := List.eq_nil_of_length_eq_zero ha.1
    subst hb
    have hq := fun wx => Lib.run_eql_slice_nil (P := Try.prog) wx 28 103 none 0 c 0 0 Try.underlying28
    go_enter Try.func101, Try.ntmps101
    go_wp2
    go_ret
    exact ⟨none, 0, rfl, ⟨rfl, .inl ⟨rfl, rfl⟩⟩, Below.refl _ _⟩
  | some ad =>
    have hq := fun wx => Lib.run_eql_slice_nil (P := Try.prog) wx 28 103 (some ad) n c 0 0 Try.underlying28
    have hB := (show Below w.heap.size w (w.alloc (Obj.cells #[] 103)) by (repeat (first | with_reducible assumption | exact Below.refl _ _ | (refine Below.setCell ?_ (by first | exact Nat.le_refl _ | (simp; done) | omega | (simp; omega)) _) | (refine below_drewN ?_ _) | (refine Below.drew ?_) | (refine Below.alloc ?_ (by first | exact Nat.le_refl _ | (simp; done) | omega | (simp; omega)) _) | (refine then_ ?_ (by with_reducible assumption)) | assumption | (refine then_ ?_ (by assumption)))))
    have o0 := Lib.hid (World.ownsRow_lit (base := w.heap.size) (size := 2) (e := 103) w #[] 0 (Nat.le_refl _) (by simp [maxLen]) rfl)
    have r1 := Lib.hid (ha.step hB)
    have hlen : (flat bdC bs).length = n * 2 := by rw [flat_length bdC_len, ha.1]
    clear ha
    go_enter Try.func101, Try.ntmps101
    go_wp2_with (at_builtin; refine wpList_append_own_at _ rfl _ _ 28 rfl w.heap.size 103 i0 (.agg #[.complex .f32 0 0, .complex .f32 0 0]) 2 16 Try.underlying28 hi hz0 hz1 hz2 rfl (by decide) _ _ _ rfl o0.out ad n c (flat bdC bs) rfl hlen (Rd.cells bdC_len (by omega) r1.out) (bdC_one bs) (by unfold maxLen; omega) (by omega) (by simp) ?_; intro v3 w3 hown3 hg3 hne3 hat3; have GB3 := Lib.hid hg3; have OW3 := Lib.hid hown3; clear hown3 hg3 hne3 hat3)
    obtain ⟨B3, d3, rfl⟩ := owns_slice OW3.out
    have own := OW3.out
    rw [Nat.zero_add, List.nil_append] at own
    go_ret
    refine ⟨B3, d3, by show Ending.returned (Value.slice B3 (0 + n) d3) = _; rw [Nat.zero_add], own, hB.grown GB3.out (by simp) (fun k hk => ?_)⟩
    exact (o0.out.lt k hk).1

set_option maxHeartbeats 2000000 in
theorem cloneTumble_any (mir : Int) (gr : Pt) (loss : Nat) (A : Option Addr) (n c : Nat) (bs : List Bd) (w : World) (hn : n ≤ 8) (ha : Rd bdC 2 w w.heap.size A n bs) :
    Calls Try.prog 71 #[.agg #[.int .i64 mir, .complex .f32 gr.1 gr.2, .float .f32 loss, .slice A n c]] w fun e w' => ∃ B d, e = .returned (.agg #[.int .i64 mir, .complex .f32 gr.1 gr.2, .float .f32 loss, .slice B n d]) ∧ w'.ownsRow w.heap.size 103 2 (.slice B n d) n (flat bdC bs) ∧ Below w.heap.size w w' := by
  go_enter Try.func71, Try.ntmps71
  go_wp2_with fail
  obtain ⟨W, hWe⟩ : ∃ W, W = (w.alloc (Obj.cells #[.int .i64 mir, .complex .f32 gr.1 gr.2, .float .f32 loss, .slice A n c] 30)).alloc (Obj.cells #[.int .i64 0, .complex .f32 0 0, .float .f32 0, .slice none 0 0] 30) := ⟨_, rfl⟩
  have hW : Below w.heap.size w W := by rw [hWe]; (repeat (first | with_reducible assumption | exact Below.refl _ _ | (refine Below.setCell ?_ (by first | exact Nat.le_refl _ | (simp; done) | omega | (simp; omega)) _) | (refine below_drewN ?_ _) | (refine Below.drew ?_) | (refine Below.alloc ?_ (by first | exact Nat.le_refl _ | (simp; done) | omega | (simp; omega)) _) | (refine then_ ?_ (by with_reducible assumption)) | assumption | (refine then_ ?_ (by assumption))))
  have zW : W.heap.size = w.heap.size + 2 := by rw [hWe]; simp
  have c0 : W.cell? ⟨w.heap.size, 0, none⟩ = some (.int .i64 mir) := by rw [hWe]; simp [go_sem]
  have c1 : W.cell? ⟨w.heap.size, 1, none⟩ = some (.complex .f32 gr.1 gr.2) := by rw [hWe]; simp [go_sem]
  have c2 : W.cell? ⟨w.heap.size, 2, none⟩ = some (.float .f32 loss) := by rw [hWe]; simp [go_sem]
  have c3 : W.cell? ⟨w.heap.size, 3, none⟩ = some (.slice A n c) := by rw [hWe]; simp [go_sem]
  have cf : W.frozen? ⟨w.heap.size, 3, none⟩ = false := by rw [hWe]; simp [go_sem]
  have d0 : W.cell? ⟨w.heap.size + 1, 0, none⟩ = some (.int .i64 0) := by rw [hWe]; simp [go_sem]
  have d1 : W.cell? ⟨w.heap.size + 1, 1, none⟩ = some (.complex .f32 0 0) := by rw [hWe]; simp [go_sem]
  have d2 : W.cell? ⟨w.heap.size + 1, 2, none⟩ = some (.float .f32 0) := by rw [hWe]; simp [go_sem]
  have d3 : W.cell? ⟨w.heap.size + 1, 3, none⟩ = some (.slice none 0 0) := by rw [hWe]; simp [go_sem]
  have df : ∀ j, W.frozen? ⟨w.heap.size + 1, j, none⟩ = false := by intro j; rw [hWe]; simp [go_sem]
  rw [← hWe]
  clear hWe
  refine (cloneBd_any A n c bs _ hn (ha.step hW)).mono ?_
  rintro e w2 ⟨B, d, rfl, ho, hb⟩
  have cf := keepF c3 cf hb
  have c0 := keepC c0 hb
  have c1 := keepC c1 hb
  have c2 := keepC c2 hb
  have c3 := keepC c3 hb
  have f0 := keepF d0 (df 0) hb
  have f1 := keepF d1 (df 1) hb
  have f2 := keepF d2 (df 2) hb
  have f3 := keepF d3 (df 3) hb
  have d0 := keepC d0 hb
  have d1 := keepC d1 hb
  have d2 := keepC d2 hb
  have d3 := keepC d3 hb
  have hW2 := then_ hW hb
  have z2 := hb.size
  have O2 := Lib.hid ho
  have lw : w.heap.size < w2.heap.size := by omega
  have lw2 : w.heap.size + 1 < w2.heap.size := by omega
  clear df ho hb hW
  go_wp2
  have lW : w.heap.size < W.heap.size := by omega
  have lW2 : w.heap.size + 1 < W.heap.size := by omega
  have lle : w.heap.size ≤ W.heap.size := by omega
  have l1 : w.heap.size ≤ w.heap.size + 1 := by omega
  refine bodyPost_ret (v := .agg #[.int .i64 mir, .complex .f32 gr.1 gr.2, .float .f32 loss, .slice B n d]) (by simp [results, Try.results71, go_sem, d0, d1, d2, d3]) rfl ⟨B, d, rfl, ?_, ?_⟩
  · exact owns_mono (ownsRow_setCell_below (ownsRow_setCell_below (ownsRow_setCell_below (ownsRow_setCell_below (ownsRow_setCell_below O2.out lW _) lW2 _) lW2 _) lW2 _) lW2 _) lle
  · exact ((((hW2.setCell (Nat.le_refl _) _).setCell l1 _).setCell l1 _).setCell l1 _).setCell l1 _
end Go.Proofs.Ytoafldgngbaddaa

/- IsPoint, l1Wedge, FoldPoint: the specification's. -/
namespace Go.Proofs.Ytoafldgngbaddaa
open Go.RowKit
attribute [local go_sem] run_store_float run_store_complex

set_option maxHeartbeats 2000000 in
theorem specIsPoint_any (re im : Nat) (w : World) :
    Calls Try.prog 89 #[.complex .f32 re im] w fun e w' => e = .returned (.bool (pointB re im)) ∧ Dr w w' := by
  cases hf : finB re
  · have R := Lib.hid (show pointB re im = false by
      cases h : pointB re im
      · rfl
      · unfold pointB at h; rw [Bool.and_eq_true] at h; rw [reach_fin h.1] at hf; cases hf)
    go_enter Try.func89, Try.ntmps89
    go_wp2_with (go_at_call 48; refine (l1Single_any _ _).mono ?_; rintro e w' ⟨rfl, n, rfl⟩; simp only [hf])
    go_ret
    exact ⟨by rw [R.out]; rfl, Dr.drewN _ _⟩
  · cases hg : finB im
    · have R := Lib.hid (show pointB re im = false by
        cases h : pointB re im
        · rfl
        · unfold pointB at h; rw [Bool.and_eq_true] at h; rw [reach_fin h.2] at hg; cases hg)
      go_enter Try.func89, Try.ntmps89
      go_wp2_with fail
      refine (l1Single_any _ _).mono ?_
      rintro e w' ⟨rfl, n, rfl⟩
      simp only [hf]
      go_wp2_with fail
      refine (l1Single_any _ _).mono ?_
      rintro e w' ⟨rfl, m, rfl⟩
      simp only [hg]
      go_wp2
      go_ret
      exact ⟨by rw [R.out]; rfl, Dr.drewN _ _⟩
    · have r : pointB re im = ((geB re 3313500160 && leB re 1166016512) && (geB im 3313500160 && leB im 1166016512)) := rfl
      have e1 : (FloatKind.f32.format.order re 3313500160 == some .gt || FloatKind.f32.format.order re 3313500160 == some .eq) = geB re 3313500160 := rfl
      have e2 : (FloatKind.f32.format.order re 1166016512 == some .lt || FloatKind.f32.format.order re 1166016512 == some .eq) = leB re 1166016512 := rfl
      have e3 : (FloatKind.f32.format.order im 3313500160 == some .gt || FloatKind.f32.format.order im 3313500160 == some .eq) = geB im 3313500160 := rfl
      have e4 : (FloatKind.f32.format.order im 1166016512 == some .lt || FloatKind.f32.format.order im 1166016512 == some .eq) = leB im 1166016512 := rfl
      have R := Lib.hid r
      clear r
      cases h1 : geB re 3313500160
      · rw [h1] at e1 R
        go_enter Try.func89, Try.ntmps89
        go_wp2_with fail
        refine (l1Single_any _ _).mono ?_
        rintro e w' ⟨rfl, n, rfl⟩
        simp only [hf]
        go_wp2_with fail
        refine (l1Single_any _ _).mono ?_
        rintro e w' ⟨rfl, m, rfl⟩
        simp only [hg]
        go_wp2
        go_ret
        exact ⟨by rw [R.out]; rfl, Dr.drewN _ _⟩
      · cases h2 : leB re 1166016512
        · rw [h1] at e1 R
          rw [h2] at e2 R
          go_enter Try.func89, Try.ntmps89
          go_wp2_with fail
          refine (l1Single_any _ _).mono ?_
          rintro e w' ⟨rfl, n, rfl⟩
          simp only [hf]
          go_wp2_with fail
          refine (l1Single_any _ _).mono ?_
          rintro e w' ⟨rfl, m, rfl⟩
          simp only [hg]
          go_wp2
          go_ret
          exact ⟨by rw [R.out]; rfl, Dr.drewN _ _⟩
        · cases h3 : geB im 3313500160
          · rw [h1] at e1 R
            rw [h2] at e2 R
            rw [h3] at e3 R
            go_enter Try.func89, Try.ntmps89
            go_wp2_with fail
            refine (l1Single_any _ _).mono ?_
            rintro e w' ⟨rfl, n, rfl⟩
            simp only [hf]
            go_wp2_with fail
            refine (l1Single_any _ _).mono ?_
            rintro e w' ⟨rfl, m, rfl⟩
            simp only [hg]
            go_wp2
            go_ret
            exact ⟨by rw [R.out]; rfl, Dr.drewN _ _⟩
          · cases h4 : leB im 1166016512
            all_goals
              rw [h1] at e1 R
              rw [h2] at e2 R
              rw [h3] at e3 R
              rw [h4] at e4 R
              go_enter Try.func89, Try.ntmps89
              go_wp2_with fail
              refine (l1Single_any _ _).mono ?_
              rintro e w' ⟨rfl, n, rfl⟩
              simp only [hf]
              go_wp2_with fail
              refine (l1Single_any _ _).mono ?_
              rintro e w' ⟨rfl, m, rfl⟩
              simp only [hg]
              go_wp2
              go_ret
              exact ⟨by rw [R.out]; rfl, Dr.drewN _ _⟩

def sideS (kind : Int) (p : Pt) : Bool := if kind = 0 then true else if kind = 1 then geB p.2 0 else if kind = 2 then geB p.1 0 && geB p.2 0 else if kind = 3 then geB p.2 0 && leB p.2 p.1 else false
set_option maxHeartbeats 2000000 in
theorem l1Wedge_any (kind : Int) (p : Pt) (w : World) :
    Calls Try.prog 110 #[.int .i64 kind, .complex .f32 p.1 p.2] w fun e w' => e = .returned (.bool (sideS kind p)) ∧ w = w' := by
  by_cases k1 : kind = 1
  · subst k1
    go_enter Try.func110, Try.ntmps110
    go_wp2
    go_ret
    exact ⟨rfl, rfl⟩
  · by_cases k2 : kind = 2
    · subst k2
      cases h1 : geB p.1 0
      all_goals
        have S := Lib.hid (show sideS 2 p = (geB p.1 0 && geB p.2 0) from rfl)
        have e1 : (FloatKind.f32.format.order p.1 0 == some .gt || FloatKind.f32.format.order p.1 0 == some .eq) = geB p.1 0 := rfl
        rw [h1] at e1
        have H1 := Lib.hid h1
        clear h1
        go_enter Try.func110, Try.ntmps110
        go_wp2
        go_ret
        exact ⟨by rw [S.out, H1.out]; rfl, rfl⟩
    · by_cases k3 : kind = 3
      · subst k3
        cases h1 : geB p.2 0
        all_goals
          have S := Lib.hid (show sideS 3 p = (geB p.2 0 && leB p.2 p.1) from rfl)
          have e1 : (FloatKind.f32.format.order p.2 0 == some .gt || FloatKind.f32.format.order p.2 0 == some .eq) = geB p.2 0 := rfl
          rw [h1] at e1
          have H1 := Lib.hid h1
          clear h1
          go_enter Try.func110, Try.ntmps110
          go_wp2
          go_ret
          exact ⟨by rw [S.out, H1.out]; rfl, rfl⟩
      · by_cases k0 : kind = 0
        · subst k0
          go_enter Try.func110, Try.ntmps110
          go_wp2
          go_ret
          exact ⟨rfl, rfl⟩
        · have S := Lib.hid (show sideS kind p = false by simp [sideS, k0, k1, k2, k3])
          go_enter Try.func110, Try.ntmps110
          go_wp2
          go_ret
          have hk0 : (kind == 0) = false := by simpa using k0
          exact ⟨by rw [S.out]; show Ending.returned (.bool (kind == 0)) = _; rw [hk0], rfl⟩

def foldH (kind : Int) (z : Pt) (l : List (Int × Bool)) : Pt × (Int × Bool) × Bool := match l.find? (fun g => sideS kind (actS g.1 g.2 z.1 z.2)) with
  | some g => (actS g.1 g.2 z.1 z.2, g, true)
  | none => ((0, 0), (0, false), false)
def foldS (kind : Int) (z : Pt) : Pt × (Int × Bool) × Bool := if pointB z.1 z.2 then foldH kind z (symsL kind) else ((0, 0), (0, false), false)
theorem foldH_hit {kind : Int} {z : Pt} {l : List (Int × Bool)} {k : Nat} {g : Int × Bool} (hx : l[k]? = some g) (hall : ∀ (i : Nat) y, i < k → l[i]? = some y → sideS kind (actS y.1 y.2 z.1 z.2) = false) (h : sideS kind (actS g.1 g.2 z.1 z.2) = true) : foldH kind z l = (actS g.1 g.2 z.1 z.2, g, true) := by
  unfold foldH
  have : l.find? (fun g => sideS kind (actS g.1 g.2 z.1 z.2)) = some g := by
    obtain ⟨hk1, hk2⟩ := (List.getElem?_eq_some_iff.1 hx)
    rw [List.find?_eq_some_iff_getElem]
    exact ⟨h, k, hk1, hk2, fun j hj => by simpa using hall j _ hj (List.getElem?_eq_getElem (by omega))⟩
  rw [this]
theorem foldH_miss {kind : Int} {z : Pt} {l : List (Int × Bool)} (hall : ∀ (i : Nat) y, l[i]? = some y → sideS kind (actS y.1 y.2 z.1 z.2) = false) : foldH kind z l = ((0, 0), (0, false), false) := by
  unfold foldH
  have : l.find? (fun g => sideS kind (actS g.1 g.2 z.1 z.2)) = none := by
    rw [List.find?_eq_none]
    intro x hx
    obtain ⟨i, hi⟩ := List.getElem?_of_mem hx
    simp [hall i x hi]
  rw [this]
theorem symsL_in {kind : Int} : ∀ g ∈ symsL kind, inB g.1 0 3 = true := by
  intro g hg
  unfold symsL symsUp at hg
  obtain ⟨h1, _⟩ := List.mem_filter.1 hg
  obtain ⟨k, hk, rfl⟩ := List.mem_map.1 h1
  exact sym8_t k (by simpa using hk)

set_option maxRecDepth 100000 in
set_option maxHeartbeats 4000000 in
theorem specFoldPoint_any (kind : Int) (z : Pt) (w : World) :
    Calls Try.prog 112 #[.int .i64 kind, .complex .f32 z.1 z.2] w fun e w' => e = .returned (foldV (foldS kind z)) ∧ Below w.heap.size w w' := by
  cases h0 : pointB z.1 z.2
  · have R := Lib.hid (show foldS kind z = ((0, 0), (0, false), false) by unfold foldS; rw [h0]; rfl)
    go_enter Try.func112, Try.ntmps112
    go_wp2_with (go_at_call 89; refine (specIsPoint_any _ _ _).mono ?_; rintro e w' ⟨rfl, n, rfl⟩; simp only [h0])
    exact bodyPost_ret (v := foldV ((0, 0), (0, false), false)) (by simp [results, Try.results112, go_sem, foldV]) rfl ⟨by rw [R.out], by (repeat (first | with_reducible assumption | exact Below.refl _ _ | (refine Below.setCell ?_ (by first | exact Nat.le_refl _ | (simp; done) | omega | (simp; omega)) _) | (refine below_drewN ?_ _) | (refine Below.drew ?_) | (refine Below.alloc ?_ (by first | exact Nat.le_refl _ | (simp; done) | omega | (simp; omega)) _) | (refine then_ ?_ (by with_reducible assumption)) | assumption | (refine then_ ?_ (by assumption))))⟩
  · obtain ⟨l, hl⟩ : ∃ l, l = symsL kind := ⟨_, rfl⟩
    have h8 : l.length ≤ 8 := by rw [hl]; exact symsUp_len _ _
    have LIN := Lib.hid (show ∀ g ∈ l, inB g.1 0 3 = true by rw [hl]; exact symsL_in)
    have ks := fun w => specSymsOf_any kind w
    have R := Lib.hid (show foldS kind z = foldH kind z l by unfold foldS; rw [h0, hl]; rfl)
    rw [← hl] at ks
    have KS := Lib.hid ks
    clear ks hl
    go_enter Try.func112, Try.ntmps112
    go_wp2_with (go_at_call 89; refine (specIsPoint_any _ _ _).mono ?_; rintro e w' ⟨rfl, n, rfl⟩; simp only [h0])
    obtain ⟨W, hWe⟩ : ∃ W, W = (w.alloc (Obj.cells #[.int .i64 0, .bool false] 99)).drewN n := ⟨_, rfl⟩
    have hW : Below w.heap.size w W := by rw [hWe]; exact below_drewN (by (repeat (first | with_reducible assumption | exact Below.refl _ _ | (refine Below.setCell ?_ (by first | exact Nat.le_refl _ | (simp; done) | omega | (simp; omega)) _) | (refine below_drewN ?_ _) | (refine Below.drew ?_) | (refine Below.alloc ?_ (by first | exact Nat.le_refl _ | (simp; done) | omega | (simp; omega)) _) | (refine then_ ?_ (by with_reducible assumption)) | assumption | (refine then_ ?_ (by assumption))))) _
    have zW : w.heap.size < W.heap.size := by rw [hWe]; show _ < (w.alloc _).heap.size; simp
    have q0 : W.cell? ⟨w.heap.size, 0, none⟩ = some (.int .i64 0) := by rw [hWe]; show (w.alloc _).cell? _ = _; simp [go_sem]
    have q1 : W.cell? ⟨w.heap.size, 1, none⟩ = some (.bool false) := by rw [hWe]; show (w.alloc _).cell? _ = _; simp [go_sem]
    have f0 : W.frozen? ⟨w.heap.size, 0, none⟩ = false := by rw [hWe]; show (w.alloc _).frozen? _ = _; simp [go_sem]
    have f1 : W.frozen? ⟨w.heap.size, 1, none⟩ = false := by rw [hWe]; show (w.alloc _).frozen? _ = _; simp [go_sem]
    rw [← hWe]
    clear hWe
    refine (KS.out _).mono ?_
    rintro e w1 ⟨G, cG, rfl, ho1, hb1⟩
    have r1 := Rd.of_own symC_len rfl ho1
    have f0 := keepF q0 f0 hb1
    have f1 := keepF q1 f1 hb1
    have q0 := keepC q0 hb1
    have q1 := keepC q1 hb1
    have hW1 := then_ hW hb1
    have lw : w.heap.size < w1.heap.size := World.block_lt_of_cell? _ _ q0
    clear ho1 hb1 hW
    go_wp2_with fail
    go_loopw [17] (fun i wr => ∃ k : Nat, k ≤ l.length ∧ i = .int .i64 k ∧ (∀ (i : Nat) y, i < k → l[i]? = some y → sideS kind (actS y.1 y.2 z.1 z.2) = false) ∧ Below w1.heap.size w1 wr) (fun i _ => l.length - (intOf i).toNat)
    case atStart => exact ⟨0, Nat.zero_le _, rfl, fun i y h => by omega, Below.refl _ _⟩
    case round =>
      obtain ⟨k, hk, rfl, hall, hw⟩ := hrel
      have HALL := Lib.hid hall
      have f0 := keepF q0 f0 hw
      have f1 := keepF q1 f1 hw
      have q0 := keepC q0 hw
      have q1 := keepC q1 hw
      have hWr := then_ hW1 hw
      clear hall
      by_cases hlt : k < l.length
      · obtain ⟨b, off, t, f, rfl, hbl, hx, c0, c1⟩ := (r1.below hw).sym hlt
        have ht := LIN.out (t, f) (List.mem_of_getElem? hx)
        have HX := Lib.hid hx
        have hki : (k : Int) < (l.length : Int) := by omega
        have hk0 : (0 : Int) ≤ (k : Int) := by omega
        obtain ⟨q, hq⟩ : ∃ q, q = actS t f z.1 z.2 := ⟨_, rfl⟩
        have HQ := Lib.hid hq
        have ka := fun w => l1Act_any t f z.1 z.2 w ht
        rw [← hq] at ka
        have KA := Lib.hid ka
        clear hx ka hq ht
        go_wp2_with fail
        obtain ⟨V, hVe⟩ : ∃ V, V = wr.alloc (Obj.cells #[.int .i64 t, .bool f] 99) := ⟨_, rfl⟩
        have hV : Below wr.heap.size wr V := by rw [hVe]; (repeat (first | with_reducible assumption | exact Below.refl _ _ | (refine Below.setCell ?_ (by first | exact Nat.le_refl _ | (simp; done) | omega | (simp; omega)) _) | (refine below_drewN ?_ _) | (refine Below.drew ?_) | (refine Below.alloc ?_ (by first | exact Nat.le_refl _ | (simp; done) | omega | (simp; omega)) _) | (refine then_ ?_ (by with_reducible assumption)) | assumption | (refine then_ ?_ (by assumption))))
        have v0 : V.cell? ⟨wr.heap.size, 0, none⟩ = some (.int .i64 t) := by rw [hVe]; simp [go_sem]
        have v1 : V.cell? ⟨wr.heap.size, 1, none⟩ = some (.bool f) := by rw [hVe]; simp [go_sem]
        have hne : ¬ wr.heap.size = w.heap.size := by have := World.block_lt_of_cell? _ _ q0; dsimp only at this; omega
        have hne' : ¬ w.heap.size = wr.heap.size := fun e => hne e.symm
        rw [← hVe]
        clear hVe
        refine (KA.out _).mono ?_
        rintro e w2 ⟨rfl, hb2⟩
        have f0 := keepF (keepC q0 hV) (keepF q0 f0 hV) hb2
        have f1 := keepF (keepC q1 hV) (keepF q1 f1 hV) hb2
        have q0 := keepC (keepC q0 hV) hb2
        have q1 := keepC (keepC q1 hV) hb2
        have v0 := keepC v0 hb2
        have v1 := keepC v1 hb2
        have hB2 := then_ (then_ hw hV) hb2
        have hW2 := then_ hW1 hB2
        simp only [cxV]
        clear hV hb2 c0 c1
        go_wp2_with fail
        refine (l1Wedge_any kind q _).mono ?_
        cases hc : sideS kind q
        · rintro e w' ⟨rfl, rfl⟩
          have HC := Lib.hid hc
          clear hc
          go_wp2
          go_roundw
          case rel =>
            refine ⟨k + 1, by omega, by go_num, fun i y hi j1 => ?_, hB2⟩
            by_cases e : i = k
            · subst e
              rw [HX.out] at j1
              injection j1 with j1
              subst j1
              show sideS kind (actS t f z.1 z.2) = false
              rw [← HQ.out]
              exact HC.out
            · exact HALL.out i y (by omega) j1
          case measure => simp [intOf]; omega
        · rintro e w' ⟨rfl, rfl⟩
          have HF := Lib.hid (foldH_hit (z := z) HX.out HALL.out (show sideS kind (actS t f z.1 z.2) = true by rw [← HQ.out]; exact hc))
          clear hc
          go_wp2_with fail
          go_region_law (fail)
          all_goals
            go_wp2
            exact bodyPost_ret (v := foldV (q, (t, f), true)) (by simp [results, Try.results112, go_sem, foldV, *]) rfl ⟨by rw [R.out, HF.out, HQ.out], by (repeat (first | with_reducible assumption | exact Below.refl _ _ | (refine Below.setCell ?_ (by first | exact Nat.le_refl _ | (simp; done) | omega | (simp; omega)) _) | (refine below_drewN ?_ _) | (refine Below.drew ?_) | (refine Below.alloc ?_ (by first | exact Nat.le_refl _ | (simp; done) | omega | (simp; omega)) _) | (refine then_ ?_ (by with_reducible assumption)) | assumption | (refine then_ ?_ (by assumption))))⟩
      · obtain rfl : k = l.length := by omega
        have HF := Lib.hid (foldH_miss (z := z) (fun i y h1 => HALL.out i y (List.getElem?_eq_some_iff.1 h1).1 h1))
        go_wp2
        exact bodyPost_ret (v := foldV ((0, 0), (0, false), false)) (by simp [results, Try.results112, go_sem, foldV, *]) rfl ⟨by rw [R.out, HF.out], by (repeat (first | with_reducible assumption | exact Below.refl _ _ | (refine Below.setCell ?_ (by first | exact Nat.le_refl _ | (simp; done) | omega | (simp; omega)) _) | (refine below_drewN ?_ _) | (refine Below.drew ?_) | (refine Below.alloc ?_ (by first | exact Nat.le_refl _ | (simp; done) | omega | (simp; omega)) _) | (refine then_ ?_ (by with_reducible assumption)) | assumption | (refine then_ ?_ (by assumption))))⟩
end Go.Proofs.Ytoafldgngbaddaa

/- Clean words: a key has one clean word; sums with nothing. No program. -/
namespace Go.Proofs.Ytoafldgngbaddaa
open Ieee

/-- a finite word without a needless sign or bits above -/
def cw (x : Nat) : Prop := finB x = true ∧ x = mk (negB x) (rung x)
theorem mk_cw {s : Bool} {r : Nat} (h : r < 2139095040) : cw (mk s r) := by
  obtain ⟨h1, h2⟩ := mk_key (s := s) h
  refine ⟨h2, ?_⟩
  unfold mk
  by_cases h0 : r = 0
  · subst h0
    rw [if_pos rfl]
    decide
  · rw [if_neg h0]
    obtain ⟨w1, w2⟩ := word_rung (s := s) h
    rw [w1, w2, if_neg h0]
theorem rung_key (x : Nat) : rung x = (key x).natAbs := by unfold key; cases negB x <;> simp
theorem cw_ext {x y : Nat} (hx : cw x) (hy : cw y) (h : key x = key y) : x = y := by
  have hr : rung x = rung y := by rw [rung_key, rung_key, h]
  rw [hx.2, hy.2, hr]
  by_cases h0 : rung y = 0
  · unfold mk; rw [if_pos h0, if_pos h0]
  · have hs : negB x = negB y := by
      unfold key at h
      rw [hr] at h
      cases h1 : negB x <;> cases h2 : negB y <;> rw [h1, h2] at h <;> simp at h <;> first | rfl | omega
    rw [hs]
theorem cleanB_cw {x : Nat} (hx : finB x = true) (hw : x < 4294967296) : cw (cleanB x) := by
  unfold cleanB
  rw [hx]
  cases hz : zeroB x
  · simp only [Bool.not_false, Bool.and_true, if_true]
    refine ⟨hx, ?_⟩
    have h0 : ¬ rung x = 0 := by unfold zeroB at hz; simpa [rung] using hz
    unfold mk
    rw [if_neg h0]
    unfold Format.word
    rw [c_sw]
    unfold negB rung
    by_cases hb : x < 2147483648
    · have e : x / 2147483648 = 0 := Nat.div_eq_of_lt hb
      rw [e]
      simp
      omega
    · have e : x / 2147483648 = 1 := by omega
      rw [e]
      simp
      omega
  · simp only [Bool.not_true, Bool.and_false, Bool.false_eq_true, if_false]
    exact ⟨by decide, by decide⟩
theorem cw_lt {x : Nat} (h : cw x) : x < 4294967296 := by
  rw [h.2]
  have hf := fin_rung h.1
  unfold mk
  split
  · omega
  · unfold Format.word
    rw [c_sw]
    split <;> omega
theorem word_cw {s : Bool} {R : Nat} (h : R ≤ 2139095040) : cw (cleanB (single.word s R)) := by
  by_cases h1 : R = 2139095040
  · subst h1
    cases s
    · have : cleanB (single.word false 2139095040) = 0 := by decide
      rw [this]; exact ⟨by decide, by decide⟩
    · have : cleanB (single.word true 2139095040) = 0 := by decide
      rw [this]; exact ⟨by decide, by decide⟩
  · rw [clean_word (by omega)]
    exact mk_cw (by omega)
theorem neg_cw {y : Nat} (hy : finB y = true) : cw (subB 0 y) := by
  rw [neg_sub hy]
  exact mk_cw (fin_rung hy)

theorem add_zero {y : Nat} (hy : finB y = true) : addB y 0 = mk (negB y) (rung y) := by
  obtain ⟨m, u, ey, hm, hu, hr⟩ := read_rung hy
  have hf := fin_rung hy
  have e : addB y 0 = match single.add y 0 with | some r => cleanB r | none => 0 := rfl
  rw [e]
  unfold Format.add
  rw [read_zero, ey]
  simp only [Datum.sum, Option.map_some, Format.write]
  have hmin : min ((u : Int) - 149) (-149 : Int) = -149 := by omega
  rw [hmin]
  have t1 : ((u : Int) - 149 - -149).toNat = u := by omega
  rw [signed_zero, t1, Int.add_zero]
  by_cases h0 : m = 0
  · have hu0 : u = 0 := by rcases hu with h | h <;> omega
    have hr0 : rung y = 0 := by omega
    subst h0 hu0
    have hs : signed (negB y) 0 0 = 0 := by unfold signed; simp
    rw [hs, hr0]
    simp only [Int.natAbs_zero, near_zero, if_true]
    rw [clean_word (by omega)]
    simp [mk]
  · have hpos : 0 < m <<< u := by rw [Nat.shiftLeft_eq]; exact Nat.mul_pos (by omega) (Nat.two_pow_pos _)
    obtain ⟨M, hM⟩ : ∃ M, M = m <<< u := ⟨_, rfl⟩
    have hsv : ∀ s : Bool, signed s m u = if s then -(M : Int) else (M : Int) := fun s => by unfold signed; rw [← hM]
    rw [← hM] at hpos
    have hab : (signed (negB y) m u).natAbs = m <<< u := by rw [hsv, ← hM]; cases negB y <;> simp
    have hne : signed (negB y) m u ≠ 0 := by rw [hsv]; cases negB y <;> simp <;> omega
    have hsg : decide (signed (negB y) m u < 0) = negB y := by
      rw [hsv]
      cases negB y
      · simp
      · simp; omega
    rw [if_neg hne, hsg, hab, near_word]
    have hx := near_exact (m := m) (u := u) (v := 0) (by omega) hm hu (by omega) (Nat.zero_le _)
    rw [Nat.sub_zero] at hx
    have e149 : ((0 : Nat) : Int) - 149 = -149 := by omega
    rw [e149] at hx
    rw [hx, hr, clean_word hf]
    rfl
theorem add_key {y : Nat} (hy : finB y = true) : key (addB y 0) = key y ∧ finB (addB y 0) = true ∧ cw (addB y 0) := by
  rw [add_zero hy]
  obtain ⟨h1, h2⟩ := mk_key (s := negB y) (fin_rung hy)
  exact ⟨by rw [h1]; rfl, h2, mk_cw (fin_rung hy)⟩
theorem ge_le {x y : Nat} (hx : finB x = true) (hy : finB y = true) : geB x y = leB y x := by
  unfold geB leB
  rw [ord_fin hx hy, ord_fin hy hx]
  rcases Int.lt_trichotomy (key x) (key y) with h | h | h
  · rw [Int.compare_eq_lt.2 h, Int.compare_eq_gt.2 h]; rfl
  · rw [Int.compare_eq_eq.2 h, Int.compare_eq_eq.2 h.symm]; rfl
  · rw [Int.compare_eq_gt.2 h, Int.compare_eq_lt.2 h]; rfl
end Go.Proofs.Ytoafldgngbaddaa

/- Sums by keys: a sum hangs on the keys of its parts alone, is clean, and changes its sign with them. No program. -/
namespace Go.Proofs.Ytoafldgngbaddaa
open Ieee

def mR (r : Nat) : Nat := if r < 8388608 then r else 8388608 + r % 8388608
def uR (r : Nat) : Nat := if r < 8388608 then 0 else r / 8388608 - 1
theorem read_key {x : Nat} (h : finB x = true) : single.read x = .number (negB x) (mR (rung x)) ((uR (rung x) : Int) - 149) := by
  obtain ⟨m, u, e, hm, hu, hr⟩ := read_rung h
  rw [e]
  have h1 : m = mR (rung x) ∧ u = uR (rung x) := by
    unfold mR uR
    rw [← hr]
    split
    · omega
    · omega
  rw [← h1.1, ← h1.2]
/-- the part of a sum that a key brings, at the rung e -/
def bring (k : Int) (e : Nat) : Int := if k < 0 then -((mR k.natAbs <<< (uR k.natAbs - e) : Nat) : Int) else ((mR k.natAbs <<< (uR k.natAbs - e) : Nat) : Int)
def lowU (a b : Int) : Nat := min (uR a.natAbs) (uR b.natAbs)
def allS (a b : Int) : Int := bring a (lowU a b) + bring b (lowU a b)
def addK (a b : Int) : Nat := if allS a b = 0 then 0 else cleanB (single.word (decide (allS a b < 0)) (single.nearest false (allS a b).natAbs ((lowU a b : Int) - 149)))
theorem bring_neg (k : Int) (e : Nat) : bring (-k) e = -bring k e := by
  unfold bring
  rw [Int.natAbs_neg]
  rcases Int.lt_trichotomy k 0 with h | h | h
  · rw [if_neg (by omega), if_pos h]; simp
  · subst h
    have h0 : mR 0 = 0 := by decide
    simp [h0]
  · rw [if_pos (by omega), if_neg (by omega)]
theorem key_neg {x : Nat} (h : key x < 0) : negB x = true := by
  unfold key at h
  cases hn : negB x
  · rw [hn] at h; simp at h; omega
  · rfl
theorem key_pos {x : Nat} (h : 0 < key x) : negB x = false := by
  unfold key at h
  cases hn : negB x
  · rfl
  · rw [hn] at h; simp at h; omega
theorem signed_bring (x e : Nat) : signed (negB x) (mR (rung x)) (uR (rung x) - e) = bring (key x) e := by
  unfold bring signed
  rw [← rung_key]
  rcases Int.lt_trichotomy (key x) 0 with h | h | h
  · rw [key_neg h]; simp [h]
  · have h0 : rung x = 0 := by rw [rung_key, h]; rfl
    have h1 : mR 0 = 0 := by decide
    rw [h0, h1, h]
    simp
  · rw [key_pos h]
    have : ¬ key x < 0 := by omega
    simp [this]
theorem add_keys {x y : Nat} (hx : finB x = true) (hy : finB y = true) : addB x y = addK (key x) (key y) := by
  have e : addB x y = match single.add x y with | some r => cleanB r | none => 0 := rfl
  rw [e]
  unfold Format.add
  rw [read_key hx, read_key hy]
  simp only [Datum.sum, Option.map_some, Format.write]
  have hl : lowU (key x) (key y) = min (uR (rung x)) (uR (rung y)) := by unfold lowU; rw [← rung_key, ← rung_key]
  have hmin : min ((uR (rung x) : Int) - 149) ((uR (rung y) : Int) - 149) = (lowU (key x) (key y) : Int) - 149 := by rw [hl]; omega
  rw [hmin]
  have t1 : ((uR (rung x) : Int) - 149 - ((lowU (key x) (key y) : Int) - 149)).toNat = uR (rung x) - lowU (key x) (key y) := by omega
  have t2 : ((uR (rung y) : Int) - 149 - ((lowU (key x) (key y) : Int) - 149)).toNat = uR (rung y) - lowU (key x) (key y) := by omega
  rw [t1, t2, signed_bring, signed_bring]
  have hs : bring (key x) (lowU (key x) (key y)) + bring (key y) (lowU (key x) (key y)) = allS (key x) (key y) := rfl
  rw [hs]
  unfold addK
  by_cases h0 : allS (key x) (key y) = 0
  · rw [if_pos h0, if_pos h0]
    simp only [h0, Int.natAbs_zero, near_zero]
    cases negB x <;> cases negB y <;> simp <;> decide
  · rw [if_neg h0, if_neg h0, near_word]
theorem lowU_neg (a b : Int) : lowU (-a) (-b) = lowU a b := by unfold lowU; rw [Int.natAbs_neg, Int.natAbs_neg]
theorem allS_neg (a b : Int) : allS (-a) (-b) = -allS a b := by unfold allS; rw [lowU_neg, bring_neg, bring_neg]; omega
theorem addK_cw (a b : Int) : cw (addK a b) := by
  unfold addK
  split
  · exact ⟨by decide, by decide⟩
  · exact word_cw (nearest_nn _ _)
theorem addK_fin (a b : Int) : finB (addK a b) = true := (addK_cw a b).1
theorem addK_neg (a b : Int) : key (addK (-a) (-b)) = -key (addK a b) := by
  unfold addK
  rw [allS_neg, lowU_neg]
  by_cases h0 : allS a b = 0
  · rw [if_pos h0, if_pos (by omega)]; decide
  · rw [if_neg h0, if_neg (by omega), Int.natAbs_neg]
    obtain ⟨R, hR⟩ : ∃ R, R = single.nearest false (allS a b).natAbs ((lowU a b : Int) - 149) := ⟨_, rfl⟩
    have hb : R ≤ 2139095040 := by rw [hR]; exact nearest_nn _ _
    rw [← hR]
    by_cases h1 : R = 2139095040
    · rw [h1]
      have a1 : cleanB (single.word true 2139095040) = 0 := by decide
      have a2 : cleanB (single.word false 2139095040) = 0 := by decide
      have : ∀ s : Bool, key (cleanB (single.word s 2139095040)) = 0 := by intro s; cases s <;> decide
      rw [this, this]; rfl
    · have hc : ∀ s : Bool, cleanB (single.word s R) = mk s R := fun s => by rw [clean_word (by omega)]; rfl
      rw [hc, hc, (mk_key (by omega)).1, (mk_key (by omega)).1]
      rcases Int.lt_trichotomy (allS a b) 0 with h | h | h
      · have d1 : decide (-allS a b < 0) = false := by simp; omega
        have d2 : decide (allS a b < 0) = true := by simp [h]
        rw [d1, d2]; simp
      · exact absurd h h0
      · have d1 : decide (-allS a b < 0) = true := by simp; omega
        have d2 : decide (allS a b < 0) = false := by simp; omega
        rw [d1, d2]; simp
theorem addB_cw {x y : Nat} (hx : finB x = true) (hy : finB y = true) : cw (addB x y) := by rw [add_keys hx hy]; exact addK_cw _ _
/-- a number that a word has is its own nearest, at any place below -/
theorem near_exactZ {m u d : Nat} (h0 : 0 < m) (hm : m < 16777216) (hu : u = 0 ∨ 8388608 ≤ m) (hf : u * 8388608 + m < 2139095040) : single.nearest false (m <<< d) ((u : Int) - 149 - (d : Int)) = u * 8388608 + m := by
  have hl : single.leastPlace = -149 := by decide
  have hfb : single.fractionBits = 23 := rfl
  rw [Nat.shiftLeft_eq]
  have hp := Nat.two_pow_pos d
  have hM : 0 < m * 2 ^ d := Nat.mul_pos h0 hp
  have hL1 : 2 ^ m.log2 ≤ m := Nat.log2_self_le (by omega)
  have hL2 : m < 2 ^ (m.log2 + 1) := Nat.lt_log2_self
  have hlog : (m * 2 ^ d).log2 = m.log2 + d := by
    refine log2_bd ?_ ?_
    · rw [Nat.pow_add]; exact Nat.mul_le_mul_right _ hL1
    · rw [show m.log2 + d + 1 = (m.log2 + 1) + d by omega, Nat.pow_add]; exact Nat.mul_lt_mul_of_pos_right hL2 hp
  have hmL : m.log2 < 24 := (Nat.log2_lt (by omega)).2 hm
  unfold Format.nearest
  rw [if_neg (by omega), hl, hfb, c_bin, c_inf, word_false, hlog]
  try simp only []
  have hlast : max ((u : Int) - 149 - (d : Int) + ((m.log2 + d : Nat) : Int) - (23 : Nat)) (-149) = (u : Int) - 149 := by
    rcases hu with h | h
    · omega
    · have : 23 ≤ m.log2 := (Nat.le_log2 (by omega)).2 h
      omega
  rw [hlast]
  have z1 : ((u : Int) - 149 - (d : Int) - ((u : Int) - 149)).toNat = 0 := by omega
  have z2 : ((u : Int) - 149 - ((u : Int) - 149 - (d : Int))).toNat = d := by omega
  have z3 : ((u : Int) - 149 - -149).toNat = u := by omega
  rw [z1, z2, z3, Nat.shiftLeft_zero]
  have hk : Toward.even.cut false (m * 2 ^ d) d = m := by
    unfold Toward.cut
    rw [hlog, Nat.min_eq_left (by omega), Nat.one_shiftLeft]
    try simp only []
    have r0 : m * 2 ^ d % 2 ^ d = 0 := Nat.mul_mod_left _ _
    have d0 : m * 2 ^ d / 2 ^ d = m := Nat.mul_div_cancel _ hp
    rw [r0, d0]
    have c1 : decide (2 ^ d < 2 * 0) = false := by simp
    have c2 : (2 ^ d == 2 * 0) = false := by simp
    rw [c1, c2]
    simp
  rw [hk]
  exact Nat.min_eq_left (Nat.le_of_lt hf)
theorem read_one : single.read 1065353216 = .number false 8388608 (-23) := by decide
/-- times one -/
theorem mul_one_eq {y : Nat} (hy : finB y = true) : mulB y 1065353216 = mk (negB y) (rung y) := by
  obtain ⟨m, u, ey, hm, hu, hr⟩ := read_rung hy
  have hf := fin_rung hy
  have e : mulB y 1065353216 = match single.mul y 1065353216 with | some r => cleanB r | none => 0 := rfl
  rw [e]
  unfold Format.mul
  rw [read_one, ey]
  simp only [Datum.product, Option.map_some, Format.write]
  rw [Bool.xor_false, near_word]
  by_cases h0 : m = 0
  · have hu0 : u = 0 := by rcases hu with h | h <;> omega
    have hr0 : rung y = 0 := by omega
    subst h0 hu0
    rw [hr0, Nat.zero_mul, near_zero, word_false, clean_word (by omega)]
    simp [mk]
  · have hx := near_exactZ (m := m) (u := u) (d := 23) (by omega) hm hu (by omega)
    rw [Nat.shiftLeft_eq] at hx
    have e2 : (2 : Nat) ^ 23 = 8388608 := by decide
    rw [e2] at hx
    have ep : (u : Int) - 149 + -23 = (u : Int) - 149 - ((23 : Nat) : Int) := by omega
    rw [ep, hx, hr, clean_word hf]
    rfl
theorem mul_one_key {y : Nat} (hy : finB y = true) : key (mulB y 1065353216) = key y ∧ finB (mulB y 1065353216) = true := by
  rw [mul_one_eq hy]
  obtain ⟨h1, h2⟩ := mk_key (s := negB y) (fin_rung hy)
  exact ⟨by rw [h1]; rfl, h2⟩
theorem one_sub_zero : subB 1065353216 0 = 1065353216 := by decide +kernel
end Go.Proofs.Ytoafldgngbaddaa

/- Differences and products by keys. No program. -/
namespace Go.Proofs.Ytoafldgngbaddaa
open Ieee

theorem allS_comm (a b : Int) : allS a b = allS b a := by
  unfold allS lowU
  rw [Nat.min_comm, Int.add_comm]
theorem addK_comm (a b : Int) : addK a b = addK b a := by
  unfold addK
  rw [allS_comm]
  unfold lowU
  rw [Nat.min_comm]
theorem signed_not (s : Bool) (m k : Nat) : signed (!s) m k = -signed s m k := by
  unfold signed
  cases s <;> simp
theorem sub_keys {x y : Nat} (hx : finB x = true) (hy : finB y = true) : subB x y = addK (key x) (-(key y)) := by
  have e : subB x y = match single.sub x y with | some r => cleanB r | none => 0 := rfl
  rw [e]
  unfold Format.sub
  rw [read_key hx, read_key hy]
  simp only [Datum.opposite, Datum.sum, Option.map_some, Format.write]
  have hl : lowU (key x) (-(key y)) = min (uR (rung x)) (uR (rung y)) := by unfold lowU; rw [Int.natAbs_neg, ← rung_key, ← rung_key]
  have hmin : min ((uR (rung x) : Int) - 149) ((uR (rung y) : Int) - 149) = (lowU (key x) (-(key y)) : Int) - 149 := by rw [hl]; omega
  rw [hmin]
  have t1 : ((uR (rung x) : Int) - 149 - ((lowU (key x) (-(key y)) : Int) - 149)).toNat = uR (rung x) - lowU (key x) (-(key y)) := by omega
  have t2 : ((uR (rung y) : Int) - 149 - ((lowU (key x) (-(key y)) : Int) - 149)).toNat = uR (rung y) - lowU (key x) (-(key y)) := by omega
  rw [t1, t2, signed_not, signed_bring, signed_bring, ← bring_neg]
  have hs : bring (key x) (lowU (key x) (-(key y))) + bring (-(key y)) (lowU (key x) (-(key y))) = allS (key x) (-(key y)) := rfl
  rw [hs]
  unfold addK
  by_cases h0 : allS (key x) (-(key y)) = 0
  · rw [if_pos h0, if_pos h0]
    simp only [h0, Int.natAbs_zero, near_zero]
    cases negB x <;> cases negB y <;> simp <;> decide
  · rw [if_neg h0, if_neg h0, near_word]
/-- a product by keys -/
def mulK (a b : Int) : Nat := if mR a.natAbs * mR b.natAbs = 0 then 0 else cleanB (single.word (decide (a < 0) != decide (b < 0)) (single.nearest false (mR a.natAbs * mR b.natAbs) (((uR a.natAbs : Int) - 149) + ((uR b.natAbs : Int) - 149))))
theorem mR_zero {r : Nat} (h : mR r = 0) : r = 0 := by
  unfold mR at h
  split at h
  · exact h
  · omega
theorem neg_sign {x : Nat} (h : mR (rung x) ≠ 0) : negB x = decide (key x < 0) := by
  have hr : rung x ≠ 0 := fun e => h (by rw [e]; decide)
  unfold key
  cases negB x
  · simp
  · simp; omega
theorem mul_keys {x y : Nat} (hx : finB x = true) (hy : finB y = true) : mulB x y = mulK (key x) (key y) := by
  have e : mulB x y = match single.mul x y with | some r => cleanB r | none => 0 := rfl
  rw [e]
  unfold Format.mul
  rw [read_key hx, read_key hy]
  simp only [Datum.product, Option.map_some, Format.write]
  unfold mulK
  rw [← rung_key, ← rung_key]
  by_cases h0 : mR (rung x) * mR (rung y) = 0
  · rw [if_pos h0, h0, near_zero]
    cases negB x <;> cases negB y <;> decide
  · rw [if_neg h0, near_word, neg_sign (fun e => h0 (by rw [e, Nat.zero_mul])), neg_sign (fun e => h0 (by rw [e, Nat.mul_zero]))]
theorem cleanW {R : Nat} (hb : R ≤ 2139095040) (s : Bool) : key (cleanB (single.word (!s) R)) = -key (cleanB (single.word s R)) := by
  by_cases h1 : R = 2139095040
  · rw [h1]
    have : ∀ s : Bool, key (cleanB (single.word s 2139095040)) = 0 := by intro s; cases s <;> decide
    rw [this, this]; rfl
  · have hc : ∀ s : Bool, cleanB (single.word s R) = mk s R := fun s => by rw [clean_word (by omega)]; rfl
    rw [hc, hc, (mk_key (by omega)).1, (mk_key (by omega)).1]
    cases s <;> simp
theorem mulK_neg (a b : Int) : key (mulK (-a) b) = -key (mulK a b) := by
  unfold mulK
  rw [Int.natAbs_neg]
  by_cases h0 : mR a.natAbs * mR b.natAbs = 0
  · rw [if_pos h0, if_pos h0]; decide
  · rw [if_neg h0, if_neg h0]
    have ha : a ≠ 0 := fun e => h0 (by rw [e, show mR (0 : Int).natAbs = 0 by decide, Nat.zero_mul])
    have hd : decide (-a < 0) = !decide (a < 0) := by
      rcases Int.lt_trichotomy a 0 with h | h | h
      · simp [h]; omega
      · exact absurd h ha
      · have h1 : ¬ a < 0 := by omega
        have h2 : -a < 0 := by omega
        rw [decide_eq_true h2, decide_eq_false h1]
        rfl
    rw [hd]
    have : ((!decide (a < 0)) != decide (b < 0)) = !(decide (a < 0) != decide (b < 0)) := by cases decide (a < 0) <;> cases decide (b < 0) <;> rfl
    rw [this, cleanW (nearest_nn _ _)]
theorem mulK_comm (a b : Int) : mulK a b = mulK b a := by
  unfold mulK
  rw [Nat.mul_comm, Int.add_comm ((uR a.natAbs : Int) - 149)]
  have : (decide (a < 0) != decide (b < 0)) = (decide (b < 0) != decide (a < 0)) := by cases decide (a < 0) <;> cases decide (b < 0) <;> rfl
  rw [this]
theorem mulK_neg' (a b : Int) : key (mulK a (-b)) = -key (mulK a b) := by rw [mulK_comm, mulK_neg, mulK_comm]
theorem mulK_cw (a b : Int) : cw (mulK a b) := by
  unfold mulK
  split
  · exact ⟨by decide, by decide⟩
  · exact word_cw (nearest_nn _ _)
theorem mulK_fin (a b : Int) : finB (mulK a b) = true := (mulK_cw a b).1
theorem mulB_cw {x y : Nat} (hx : finB x = true) (hy : finB y = true) : cw (mulB x y) := by rw [mul_keys hx hy]; exact mulK_cw _ _
theorem subB_cw {x y : Nat} (hx : finB x = true) (hy : finB y = true) : cw (subB x y) := by rw [sub_keys hx hy]; exact addK_cw _ _
end Go.Proofs.Ytoafldgngbaddaa

/- l3Plus: the specification's. -/
namespace Go.Proofs.Ytoafldgngbaddaa
open Go.RowKit
attribute [local go_sem] run_store_float run_store_complex

theorem specPlus_any (a b : Pt) (w : World) :
    Calls Try.prog 97 #[.complex .f32 a.1 a.2, .complex .f32 b.1 b.2] w fun e w' => e = .returned (.complex .f32 (plusP a b).1 (plusP a b).2) ∧ Dr w w' := by
  go_enter Try.func97, Try.ntmps97
  go_wp2_with fail
  refine (l1Plus_any _ _ _).mono ?_
  rintro e w' ⟨rfl, n, rfl⟩
  go_wp2_with fail
  refine (l1Plus_any _ _ _).mono ?_
  rintro e w' ⟨rfl, k, rfl⟩
  go_wp2
  go_ret
  exact ⟨rfl, n + k, rfl⟩

end Go.Proofs.Ytoafldgngbaddaa

/- Draws: the cursor's worlds. -/
namespace Go.Proofs.Ytoafldgngbaddaa
open Go.RowKit
attribute [local go_sem] run_store_float run_store_complex

theorem CurB.off {w w' : World} {g : Nat} {A : Option Addr} {m c : Nat} {bs : List Int} {row : Option Nat} (h : CurB w g A m c bs) (hg : w.grownBy w' row) (ho : ∀ k, row = some k → g < k) : CurB w' g A m c bs := by
  obtain ⟨⟨i, x, hi, hh⟩, h2, h3, h4⟩ := h
  refine ⟨⟨i, x, hi, (hg.block g h3 (fun e => by have := ho g e.symm; omega)).trans hh⟩, h2.keep (fun p hp => World.cell?_of_block (hg.block p.block (by omega) (fun e => by have := ho _ e.symm; omega))), Nat.lt_of_lt_of_le h3 hg.size, h4⟩
theorem grown_mix {a b c : World} {row row2 : Option Nat} (h : a.grownBy b row) (k : b.grownBy c row2) (hr : ∀ j, row2 = some j → a.heap.size ≤ j) : a.grownBy c row :=
  ⟨k.os.trans h.os, k.tape.trans h.tape, k.output.trans h.output, Nat.le_trans h.size k.size, fun i hi hne => (k.block i (Nat.lt_of_lt_of_le hi h.size) (fun e => by have := hr i e.symm; omega)).trans (h.block i hi hne)⟩
theorem Rd.gro {α : Type} {enc : α → List Value} {sz : Nat} {w w' : World} {B f n : Nat} {xs : List α} {row : Option Nat} {o : Nat} (h : Rd enc sz w B (some ⟨f, o, none⟩) n xs) (hg : w.grownBy w' row) (hlt : f < w.heap.size) (hne : row ≠ some f) :
    Rd enc sz w' B (some ⟨f, o, none⟩) n xs :=
  ⟨h.1, fun hn => by
    obtain ⟨b, off, e, hb, hc⟩ := h.2 hn
    injection e with e
    injection e with e1 e2
    subst e1 e2
    exact ⟨f, o, rfl, hb, fun k x hx j u hu => (World.cell?_of_block (hg.block f hlt (fun e => hne e.symm))).trans (hc k x hx j u hu)⟩⟩
theorem CurB.drew {w : World} {g : Nat} {A : Option Addr} {m c : Nat} {bs : List Int} (h : CurB w g A m c bs) : CurB w.drew g A m c bs := h
theorem grown_undrew {w w' : World} {row : Option Nat} (h : w.drew.grownBy w' row) : w.grownBy w' row := ⟨h.os, h.tape, h.output, h.size, h.block⟩
theorem frG {w w' : World} {row : Option Nat} {b : Nat} (h : ∀ j, w.frozen? ⟨b, j, none⟩ = false) (hg : w.grownBy w' row) (hb : b < w.heap.size) (hne : row ≠ some b) : ∀ j, w'.frozen? ⟨b, j, none⟩ = false :=
  fun j => (World.frozen?_of_block (hg.block b hb (fun e => hne e.symm))).trans (h j)
theorem frB {w w' : World} {b : Nat} (h : ∀ j, w.frozen? ⟨b, j, none⟩ = false) (hg : Below w.heap.size w w') (hb : b < w.heap.size) : ∀ j, w'.frozen? ⟨b, j, none⟩ = false :=
  fun j => (hg.frozen (p := ⟨b, j, none⟩) hb).trans (h j)
theorem frS {w : World} {b : Nat} (h : ∀ j, w.frozen? ⟨b, j, none⟩ = false) (p : Addr) (u : Value) : ∀ j, (w.setCell p u).frozen? ⟨b, j, none⟩ = false := by
  intro j; simp [go_sem, h j]
theorem ne_of_off {v : Value} {f : Nat} (h : Off v f) : v.ownBlock ≠ some f := h
theorem owns_gt {w : World} {base : Nat} {E : TypeId} {sz : Nat} {v : Value} {n : Nat} {xs : List Value} (h : w.ownsRow base E sz v n xs) {g : Nat} (hg : g < base) : ∀ k, v.ownBlock = some k → g < k := fun k hk => by have := (h.lt k hk).1; omega
theorem owns_ge {w : World} {base : Nat} {E : TypeId} {sz : Nat} {v : Value} {n : Nat} {xs : List Value} (h : w.ownsRow base E sz v n xs) {b : Nat} (hg : b ≤ base) : ∀ k, v.ownBlock = some k → b ≤ k := fun k hk => by have := (h.lt k hk).1; omega
end Go.Proofs.Ytoafldgngbaddaa

/- A box's cells as a list. -/
namespace Go.Proofs.Ytoafldgngbaddaa
open Go.RowKit

def CA (w : World) (b : Nat) (l : List Value) : Prop := ∀ (i : Nat) v, l[i]? = some v → w.cell? ⟨b, i, none⟩ = some v
def FA (w : World) (b : Nat) : Prop := ∀ j, w.frozen? ⟨b, j, none⟩ = false
theorem CA.new (w : World) (a : Array Value) (t : TypeId) : CA (w.alloc (Obj.cells a t)) w.heap.size a.toList := by
  intro i v hv
  have := cell_of_row (w.alloc (Obj.cells a t)) w.heap.size i a t (0, 0) (heap_alloc_new w _)
  rw [this]
  simpa using hv
theorem FA.new (w : World) (a : Array Value) (t : TypeId) : FA (w.alloc (Obj.cells a t)) w.heap.size := by
  intro j; simp [go_sem]
theorem CA.keep {w w' : World} {b : Nat} {l : List Value} (h : CA w b l) (hb : Below w.heap.size w w') : CA w' b l := fun i v hv => keepC (h i v hv) hb
theorem CA.lt {w : World} {b : Nat} {v : Value} {l : List Value} (h : CA w b (v :: l)) : b < w.heap.size := World.block_lt_of_cell? _ _ (h 0 v rfl)
theorem FA.keep {w w' : World} {b : Nat} (h : FA w b) (hb : Below w.heap.size w w') (hl : b < w.heap.size) : FA w' b := frB h hb hl
theorem CA.alloc {w : World} {b : Nat} {l : List Value} (h : CA w b l) (o : Obj) : CA (w.alloc o) b l := h.keep (Below.alloc (Below.refl _ _) (Nat.le_refl _) _)
theorem FA.alloc {w : World} {b : Nat} (h : FA w b) (hl : b < w.heap.size) (o : Obj) : FA (w.alloc o) b := h.keep (Below.alloc (Below.refl _ _) (Nat.le_refl _) _) hl
/-- kept over growth by another row -/
theorem CA.grown {w w' : World} {b : Nat} {l : List Value} {row : Option Nat} (h : CA w b l) (hg : w.grownBy w' row) (hne : ∀ k, row = some k → b ≠ k) : CA w' b l := fun i v hv => by
  have hlt := World.block_lt_of_cell? _ _ (h i v hv)
  rw [hg.cell_far ⟨b, i, none⟩ hlt (fun e => hne b e.symm rfl)]
  exact h i v hv
theorem FA.grown {w w' : World} {b : Nat} {row : Option Nat} (h : FA w b) (hl : b < w.heap.size) (hg : w.grownBy w' row) (hne : ∀ k, row = some k → b ≠ k) : FA w' b := fun j => by
  rw [hg.frozen_far ⟨b, j, none⟩ hl (fun e => hne b e.symm rfl)]
  exact h j
/-- kept where another block's cell is set -/
theorem CA.other {w : World} {b : Nat} {l : List Value} (h : CA w b l) (p : Addr) (u : Value) (hp : b ≠ p.block) : CA (w.setCell p u) b l := fun i v hv => by
  rw [World.cell?_setCell_other w p ⟨b, i, none⟩ u (fun e => hp (by rw [e]))]
  exact h i v hv
theorem FA.set {w : World} {b : Nat} (h : FA w b) (p : Addr) (u : Value) : FA (w.setCell p u) b := frS h p u
theorem CA.drewN {w : World} {b : Nat} {l : List Value} (h : CA w b l) (n : Nat) : CA (w.drewN n) b l := h
theorem FA.drewN {w : World} {b : Nat} (h : FA w b) (n : Nat) : FA (w.drewN n) b := h
/-- one of its own cells is set -/
theorem CA.put {w : World} {b : Nat} {l : List Value} (h : CA w b l) (i : Nat) (u : Value) : CA (w.setCell ⟨b, i, none⟩ u) b (l.set i u) := fun j v hv => by
  by_cases e : i = j
  · subst e
    have hl : i < l.length := by
      have := (List.getElem?_eq_some_iff.1 hv).1
      simpa using this
    rw [List.getElem?_set_self hl] at hv
    injection hv with hv
    subst hv
    have := h i _ (List.getElem?_eq_getElem hl)
    exact World.cell?_setCell_same _ _ _ this
  · rw [List.getElem?_set_ne e] at hv
    rw [World.cell?_setCell_other w ⟨b, i, none⟩ ⟨b, j, none⟩ u (fun x => e (by injection x))]
    exact h j v hv
theorem own_setp {w : World} {base : Nat} {E : TypeId} {sz : Nat} {v : Value} {n : Nat} {xs : List Value} {b : Nat} (h : w.ownsRow base E sz v n xs) (hb : b < base) (i : Nat) (u : Value) : (w.setCell ⟨b, i, none⟩ u).ownsRow base E sz v n xs := ownsRow_setCell_below h hb u
end Go.Proofs.Ytoafldgngbaddaa

/- isStep: the program's. -/
namespace Go.Proofs.Ytoafldgngbaddaa
open Go.RowKit
attribute [local go_sem] run_store_float run_store_complex

def stpB (x : Nat) : Bool := gtB x 0 && leB x 1132462080
theorem isStep_any (x : Nat) (w : World) :
    Calls Try.prog 38 #[.float .f32 x] w fun e w' => e = .returned (.bool (stpB x)) ∧ w = w' := by
  have r : stpB x = (gtB x 0 && leB x 1132462080) := rfl
  cases h1 : gtB x 0
  all_goals
    rw [h1] at r
    have e1 : (FloatKind.f32.format.order x 0 == some .gt) = gtB x 0 := rfl
    rw [h1] at e1
    have R := Lib.hid r
    clear r h1
    go_enter Try.func38, Try.ntmps38
    go_wp2
    go_ret
    exact ⟨by rw [R.out]; simp [leB, ordB, FloatKind.format], rfl⟩

end Go.Proofs.Ytoafldgngbaddaa

/- One element is deleted out of a row of the call's own. No program. -/
namespace Go.Proofs.Ytoafldgngbaddaa
open Go.RowKit

def setL : List Value → Nat → List Value → List Value
  | xs, _, [] => xs
  | xs, j, u :: us => setL (xs.set j u) (j + 1) us
theorem setL_len : ∀ (us : List Value) (xs : List Value) (j : Nat), (setL xs j us).length = xs.length
  | [], _, _ => rfl
  | u :: us, xs, j => by unfold setL; rw [setL_len us]; simp
theorem take_set_succ {xs : List Value} {j : Nat} (u : Value) (h : j < xs.length) : (xs.set j u).take (j + 1) = xs.take j ++ [u] := by
  rw [List.take_add_one, List.getElem?_set_self h]
  congr 1
  apply List.ext_getElem?
  intro k
  by_cases hk : k < j
  · rw [List.getElem?_take_of_lt hk, List.getElem?_take_of_lt hk, List.getElem?_set_ne (by omega)]
  · rw [List.getElem?_take, List.getElem?_take, if_neg hk, if_neg hk]
theorem setL_take : ∀ (us : List Value) (xs : List Value) (j : Nat), j + us.length ≤ xs.length → (setL xs j us).take (j + us.length) = xs.take j ++ us
  | [], xs, j, _ => by simp [setL]
  | u :: us, xs, j, h => by
    simp only [List.length_cons] at h
    have e : j + (u :: us).length = (j + 1) + us.length := by simp; omega
    unfold setL
    rw [e, setL_take us (xs.set j u) (j + 1) (by simp; omega), take_set_succ u (by omega), List.append_assoc]
    rfl
theorem own_setL {base : Nat} {E : TypeId} {sz g n c : Nat} : ∀ (us : List Value) (j : Nat) (w : World) (xs : List Value), w.ownsRow base E sz (.slice (some ⟨g, 0, none⟩) n c) n xs →
    (w.setCells g j us).ownsRow base E sz (.slice (some ⟨g, 0, none⟩) n c) n (setL xs j us)
  | [], _, _, _, h => h
  | u :: us, j, _, _, h => own_setL us (j + 1) _ _ (h.stored j u).1
theorem grown_setCells {a : World} {g : Nat} : ∀ (us : List Value) (j : Nat) (w : World), a.grownBy w (some g) → a.grownBy (w.setCells g j us) (some g)
  | [], _, _, h => h
  | u :: us, j, _, h => grown_setCells us (j + 1) _ (grown_set h j u)
theorem flat_drop {α : Type} {enc : α → List Value} {sz : Nat} (he : ∀ x, (enc x).length = sz) : ∀ (xs : List α) (i : Nat), (flat enc xs).drop (i * sz) = flat enc (xs.drop i)
  | [], i => by simp [flat]
  | x :: xs, 0 => by simp
  | x :: xs, i + 1 => by
    have e : (i + 1) * sz = (enc x).length + i * sz := by rw [he x, Nat.add_mul]; omega
    rw [List.drop_succ_cons, flat_cons, ← flat_drop he xs i, e, List.drop_append]
    simp
theorem del_own {α : Type} {enc : α → List Value} {sz : Nat} (he : ∀ x, (enc x).length = sz) {w : World} {base : Nat} {E : TypeId} {g n c i : Nat} {bs : List α}
    (h : w.ownsRow base E sz (.slice (some ⟨g, 0, none⟩) n c) n (flat enc bs)) (hl : bs.length = n) (hi : i < n) :
    (w.setCells g (i * sz) (flat enc (bs.drop (i + 1)))).ownsRow base E sz (.slice (some ⟨g, 0, none⟩) (n - 1) c) (n - 1) (flat enc (bs.eraseIdx i)) := by
  have hd : (flat enc (bs.drop (i + 1))).length = (n - (i + 1)) * sz := by rw [flat_length he, List.length_drop, hl]
  have hf : (flat enc bs).length = n * sz := by rw [flat_length he, hl]
  have hs : i * sz + (n - (i + 1)) * sz = (n - 1) * sz := by rw [← Nat.add_mul]; congr 1; omega
  have hle : (n - 1) * sz ≤ n * sz := Nat.mul_le_mul_right _ (by omega)
  have o := own_take (own_setL (flat enc (bs.drop (i + 1))) (i * sz) w _ h) (show n - 1 ≤ n by omega)
  rw [← hs, ← hd, setL_take _ _ _ (by rw [hd, hs, hf]; exact hle), flat_take he, ← flat_append, ← List.eraseIdx_eq_take_drop_succ] at o
  exact o
theorem del_news {α : Type} {enc : α → List Value} {sz : Nat} (he : ∀ x, (enc x).length = sz) (hsz : 0 < sz) {w : World} {B g n i : Nat} {bs : List α} (h : Rd enc sz w B (some ⟨g, 0, none⟩) n bs) :
    ∀ j u, (flat enc (bs.drop (i + 1)))[j]? = some u → w.cell? ⟨g, (i + 1) * sz + j, none⟩ = some u := by
  intro j u hu
  rw [← flat_drop he, List.getElem?_drop] at hu
  have := Rd.cells he hsz h _ _ hu
  rw [Addr.add_lit] at this
  simpa using this
end Go.Proofs.Ytoafldgngbaddaa

/- A region whose own stores hit cells that it loads: a load may be taken first where the stores wait for it. No program. -/
namespace Go.Proofs.Ytoafldgngbaddaa
section
variable {P : Program} {ops : Array Oper} {Q : Exit → Act → World → Prop} {md : Region.Mode} {S : World → Prop} {T : Nat → Bool}

/-- whatever order is picked: behind each operation that T does not name S holds -/
def wpAnyT (P : Program) (md : Region.Mode) (ops : Array Oper) (Q : Exit → Act → World → Prop) (S : World → Prop) (T : Nat → Bool) : Nat → Array Bool → Act → World → Prop
  | 0, l, a, w => Region.ready md ops l = [] ∧ Q .normal a w
  | n + 1, l, a, w => (Region.ready md ops l = [] → Q .normal a w) ∧
      ∀ i ∈ Region.ready md ops l, wpOp P ops Q i (fun b v => (T i = false → S v) ∧ wpAnyT P md ops Q S T n (l.setIfInBounds i true) b v) a w
theorem wpAnyT_any : ∀ (n : Nat) (l : Array Bool) (a : Act) (w : World), wpAnyT P md ops Q S T n l a w → wpAny P md ops Q n l a w
  | 0, _, _, _, h => h
  | n + 1, _, _, _, h => ⟨h.1, fun i hi => wpOp_mono (fun b v k => wpAnyT_any n _ b v k.2) (h.2 i hi)⟩
/-- number j waits for number i, itself or by others -/
def needs (md : Region.Mode) (ops : Array Oper) : Nat → Nat → Nat → Bool
  | 0, _, _ => false
  | n + 1, j, i => ((ops[j]?).map (fun o => o.after.any (fun e => Region.binds md e && (e.on == i || needs md ops n e.on i)))).getD false
/-- what has come up is closed under what it waited for -/
def Cl (md : Region.Mode) (ops : Array Oper) (l : Array Bool) : Prop := ∀ (j : Nat) (o : Oper), ops[j]? = some o → l.getD j false = true → ∀ e ∈ o.after, Region.binds md e = true → l.getD e.on false = true
def clB (md : Region.Mode) (ops : Array Oper) (l : Array Bool) : Bool := (List.range ops.size).all fun j => !(l.getD j false) || ((ops[j]?).map (fun o => o.after.all (fun e => !(Region.binds md e) || l.getD e.on false))).getD true
theorem clB_spec {l : Array Bool} (h : clB md ops l = true) : Cl md ops l := by
  intro j o hj hl e he hb
  have k := List.all_eq_true.1 h j (List.mem_range.2 (Array.getElem?_eq_some_iff.1 hj).1)
  rw [hl, hj] at k
  simp only [Bool.not_true, Bool.false_or, Option.map_some, Option.getD_some] at k
  have m := Array.all_eq_true'.1 k e he
  rw [hb] at m
  simpa using m
theorem cl_set {l : Array Bool} {j : Nat} (h : Cl md ops l) (hj : j ∈ Region.ready md ops l) : Cl md ops (l.setIfInBounds j true) := by
  obtain ⟨_, o, ho, al⟩ := mem_ready.1 hj
  intro k o' hk hl e he hb
  rcases Decidable.em (j = k) with rfl | ne
  · rw [hk] at ho
    injection ho with ho
    subst ho
    exact getD_set_true (al e he hb)
  · rw [getD_set_ne false ne] at hl
    exact getD_set_true (h k o' hk hl e he hb)
theorem needs_listed {l : Array Bool} (h : Cl md ops l) {i : Nat} : ∀ (n : Nat) (j : Nat) (o : Oper), ops[j]? = some o → (∀ e ∈ o.after, Region.binds md e = true → l.getD e.on false = true) → needs md ops n j i = true → l.getD i false = true
  | 0, _, _, _, _, k => by cases k
  | n + 1, j, o, ho, al, k => by
    unfold needs at k
    rw [ho] at k
    simp only [Option.map_some, Option.getD_some] at k
    obtain ⟨e, he, m⟩ := Array.any_eq_true'.1 k
    simp only [Bool.and_eq_true, Bool.or_eq_true, beq_iff_eq] at m
    have le := al e he m.1
    rcases m.2 with q | q
    · rw [← q]; exact le
    · cases hx : ops[e.on]? with
      | none =>
        cases n with
        | zero => cases q
        | succ n =>
          unfold needs at q
          rw [hx] at q
          cases q
      | some x => exact needs_listed h n e.on x hx (fun e' he' hb' => h e.on x hx le e' he' hb') q
/-- every operation that T names waits for number i -/
def waitsB (md : Region.Mode) (ops : Array Oper) (T : Nat → Bool) (i : Nat) : Bool := (List.range ops.size).all fun j => !(T j) || needs md ops 8 j i
theorem wpAnyT_front {i : Nat} {oi : Oper} {v : Value} (hi : ops[i]? = some oi) (hs : ∀ (j : Nat) (o : Oper) cs b, ops[j]? = some o → o.op ≠ .select cs b) (hw : waitsB md ops T i = true)
    (hQ : ∀ c a w, Q (.panic c) (a.put oi.dst v) w → Q (.panic c) a w) : ∀ (n : Nat) (l : Array Bool) (a : Act) (w : World), Cl md ops l →
      (∀ j o, ops[j]? = some o → j ≠ i → l.getD j true = false → (∀ e ∈ o.after, Region.binds md e = true → e.on ≠ i) → oi.apart ops o = true) →
      i ∈ Region.ready md ops l → YieldsIf P ops S oi v a → S w → wpAnyT P md ops Q S T n (l.setIfInBounds i true) (a.put oi.dst v) w → wpAnyT P md ops Q S T (n + 1) l a w := by
  intro n
  induction n with
  | zero =>
    intro l a w _ _ hr hy hS H
    refine ⟨fun e => absurd hr (by rw [e]; simp), fun j hj => ?_⟩
    rcases Decidable.em (j = i) with rfl | ne
    · exact hy.wpOp hi hS ⟨fun _ => hS, H⟩
    · have k := ready_mono hj ne
      rw [H.1] at k
      cases k
  | succ n ih =>
    intro l a w cl free hr hy hS H
    refine ⟨fun e => absurd hr (by rw [e]; simp), fun j hj => ?_⟩
    rcases Decidable.em (j = i) with rfl | ne
    · exact hy.wpOp hi hS ⟨fun _ => hS, H⟩
    · obtain ⟨ju, o, ho, al⟩ := mem_ready.1 hj
      have iu : ¬ l.getD i false = true := by
        have k := (mem_ready.1 hr).1
        rcases Nat.lt_or_ge i l.size with x | x
        · simp [x] at k ⊢; exact k
        · simp [Array.getElem?_eq_none x]
      have nw : ∀ e ∈ o.after, Region.binds md e = true → e.on ≠ i := fun e he hb q => iu (by rw [← q]; exact al e he hb)
      have tj : T j = false := by
        cases ht : T j
        · rfl
        · have k := List.all_eq_true.1 hw j (List.mem_range.2 (Array.getElem?_eq_some_iff.1 ho).1)
          rw [ht] at k
          exact absurd (needs_listed cl 8 j o ho al (by simpa using k)) iu
      have k := wpOp_putIf ho (free j o ho ne ju nw) (fun cs b => hs i oi cs b hi) (fun cs b => hs j o cs b ho) hQ hy (H.2 j (ready_mono hj ne))
      refine wpOp_mono (fun b u m => ⟨m.2.1, ih _ b u (cl_set cl hj) ?_ (ready_mono hr (Ne.symm ne)) m.1 (m.2.1 tj) ?_⟩) k
      · intro k' o' hk' nk ku nw'
        refine free k' o' hk' nk ?_ nw'
        rcases Decidable.em (j = k') with rfl | ne'
        · exact ju
        · rwa [getD_set_ne true ne'] at ku
      · rw [Array.setIfInBounds_comm _ _ ne]
        exact m.2.2
theorem wpAnyT_take {i : Nat} {oi : Oper} {v : Value} {n : Nat} {l : Array Bool} {a : Act} {w : World} (hi : ops[i]? = some oi) (hs : Region.noSelect ops = true) (hf : Region.free md ops l i = true)
    (hr : (Region.ready md ops l).contains i = true) (hw : (waitsB md ops T i && clB md ops l) = true) (hQ : ∀ c a w, Q (.panic c) (a.put oi.dst v) w → Q (.panic c) a w) (hy : YieldsIf P ops S oi v a) (hS : S w)
    (h : wpAnyT P md ops Q S T n (l.setIfInBounds i true) (a.put oi.dst v) w) : wpAnyT P md ops Q S T (n + 1) l a w := by
  rw [Bool.and_eq_true] at hw
  exact wpAnyT_front hi (Region.noSelect_spec hs) hw.1 hQ n l a w (clB_spec hw.2) (Region.free_spec hi hf) (by simpa using hr) hy hS h
/-- one operation alone may come up -/
theorem wpAnyT_one {i : Nat} {o : Oper} {n : Nat} {l : Array Bool} {a : Act} {w : World} (hr : Region.ready md ops l = [i]) (ho : ops[i]? = some o)
    (h : ∀ K : Act → World → Prop, Shut (∀ b v, (T i = false → S v) → ((T i = false → S v) → wpAnyT P md ops Q S T n (l.setIfInBounds i true) b v) → K b v) → if Region.wanted o (yielded ops a.tmps) = true then Oper.wp P o a w K Q else K (a.put o.dst undef) w) :
    wpAnyT P md ops Q S T (n + 1) l a w := by
  refine ⟨fun e => absurd e (by rw [hr]; simp), fun j hj => ?_⟩
  rw [hr, List.mem_singleton] at hj
  subst hj
  exact wpOp_step ho (fun K hK => h K (fun b v h1 h2 => hK b v ⟨h1, h2 h1⟩))
theorem wpAnyT_end {l : Array Bool} {a : Act} {w : World} (hr : Region.ready md ops l = []) (h : Q .normal a w) : ∀ n, wpAnyT P md ops Q S T n l a w
  | 0 => ⟨hr, h⟩
  | _ + 1 => ⟨fun _ => h, by rw [hr]; simp⟩
theorem wp_region_T {id : Nat} {a : Act} {w : World} (S : World → Prop) (T : Nat → Bool) (hm : P.follows .mixedOrders = true) (hS : S w.drew)
    (h : S w.drew → wpAnyT P .any ops Q S T ops.size (Array.replicate ops.size false) a w.drew) : (Code.region id ops true).wp P Q a w :=
  wp_region_any hm (wpAnyT_any _ _ _ _ (h hS))
end
end Go.Proofs.Ytoafldgngbaddaa

/- '==' on structs. -/
namespace Go.Proofs.Ytoafldgngbaddaa
open Go.RowKit

def colEqB (a b : Col) : Bool := eqB a.1 b.1 && eqB a.2.1 b.2.1 && eqB a.2.2 b.2.2

section
variable {P : Program} (w : World)
theorem run_equalIn_float (d : Nat) (t : TypeId) (k k' : FloatKind) (a b : Nat) (h : P.underlying t = some (.float k')) : (Op.equalIn (d + 1) t (.float k a) (.float k b)).run P w = .ok (k.format.order a b == some .eq) w := by
  simp [Op.equalIn, run_underlying h, Op.floatEq]
theorem run_equalIn_complex (d : Nat) (t : TypeId) (k k' : FloatKind) (a b a' b' : Nat) (h : P.underlying t = some (.complex k')) : (Op.equalIn (d + 1) t (.complex k a b) (.complex k a' b')).run P w = .ok ((k.format.order a a' == some .eq) && (k.format.order b b' == some .eq)) w := by
  simp [Op.equalIn, run_underlying h, Op.floatEq]
end

theorem colEq_fields (d : Nat) (r g b r' g' b' : Nat) (w : World) : (Op.eqFields (d + 1) #[.float .f32 r, .float .f32 g, .float .f32 b] #[.float .f32 r', .float .f32 g', .float .f32 b'] (Try.prog.fieldsOf 25).toList).run Try.prog w = .ok (colEqB (r, g, b) (r', g', b')) w := by
  have h : colEqB (r, g, b) (r', g', b') = ((FloatKind.f32.format.order r r' == some .eq) && ((FloatKind.f32.format.order g g' == some .eq) && (FloatKind.f32.format.order b b' == some .eq))) := by
    show (eqB r r' && eqB g g' && eqB b b') = (eqB r r' && (eqB g g' && eqB b b'))
    rw [Bool.and_assoc]
  rw [h]
  have k := fun wx d a b => run_equalIn_float (P := Try.prog) wx d 22 .f32 .f32 a b Try.underlying22
  cases h1 : (FloatKind.f32.format.order r r' == some .eq) <;> cases h2 : (FloatKind.f32.format.order g g' == some .eq) <;> cases h3 : (FloatKind.f32.format.order b b' == some .eq) <;> simp at h1 h2 h3 <;> simp [go_sem, Try.underlying25, k, h1, h2, h3]

theorem run_neq_col (r g b r' g' b' : Nat) (w : World) : (binOp .neq 25 (.agg #[.float .f32 r, .float .f32 g, .float .f32 b]) (.agg #[.float .f32 r', .float .f32 g', .float .f32 b'])).run Try.prog w = .ok (.bool (!(colEqB (r, g, b) (r', g', b')))) w := by
  rw [run_neq_struct]
  have ht : Try.prog.underlying 25 = some (.struct (Try.prog.fieldsOf 25)) := by kernel_rfl
  have hp : Try.prog.stoodInHeld 25 = false := by kernel_rfl
  rw [run_equalIn_agg (P := Try.prog) w 9999 25 _ _ ht hp, colEq_fields 9998]
  rfl

def sameCells (xs ys : List Col) : Bool := xs.length == ys.length && (List.zipWith colEqB xs ys).all id
def sameP (s1 : Int) (xs : List Col) (s2 : Int) (ys : List Col) : Bool := (s1 == s2) && sameCells xs ys

theorem sameCells_len {xs ys : List Col} (h : xs.length ≠ ys.length) : sameCells xs ys = false := by simp [sameCells, h]
theorem sameCells_no {xs ys : List Col} {i : Nat} {x y : Col} (hx : xs[i]? = some x) (hy : ys[i]? = some y) (h : colEqB x y = false) : sameCells xs ys = false := by
  have hz : (List.zipWith colEqB xs ys)[i]? = some false := by simp [List.getElem?_zipWith, hx, hy, h]
  unfold sameCells
  have hm := List.mem_of_getElem? hz
  have : (List.zipWith colEqB xs ys).all id = false := by
    rw [List.all_eq_false]
    exact ⟨false, hm, by simp⟩
  rw [this, Bool.and_false]
theorem sameCells_yes {xs ys : List Col} (hl : xs.length = ys.length) (h : ∀ (i : Nat) x y, xs[i]? = some x → ys[i]? = some y → colEqB x y = true) : sameCells xs ys = true := by
  unfold sameCells
  rw [beq_iff_eq.2 hl, Bool.true_and, List.all_eq_true]
  intro b hb
  obtain ⟨i, hi⟩ := List.getElem?_of_mem hb
  rw [List.getElem?_zipWith] at hi
  cases hx : xs[i]? with
  | none => simp [hx] at hi
  | some x =>
    cases hy : ys[i]? with
    | none => simp [hx, hy] at hi
    | some y =>
      simp [hx, hy] at hi
      rw [← hi]
      simpa using h i x y hx hy
end Go.Proofs.Ytoafldgngbaddaa
