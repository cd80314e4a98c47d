/- Own · Reg · DrawH · First -/
import Derived.Test.YtchkcleenmoajaaSyms
import Derived.Deep.RegionHeld3
import Derived.Deep.DeepCutAuto
import Derived.Test.YtchkcleenmoajaaDrawP
import Derived.Deep.RegionLaw
import Derived.Deep.AppendLies
import Derived.Test.YtchkcleenmoajaaM9

/- Marks on rows of the call's own, and what is held: ints. -/
namespace Go.Proofs.Ytchkcleenmoajaa
open Go.RowKit
attribute [local go_sem] run_store_float run_store_complex

theorem owns_grown {w w' : World} {base : Nat} {E : TypeId} {sz : Nat} {v : Value} {n : Nat} {xs : List Value} {row : Option Nat} (h : w.ownsRow base E sz v n xs) (hg : w.grownBy w' row) (hne : ∀ g, row = some g → Off v g) : w'.ownsRow base E sz v n xs := by
  refine h.kept hg ?_
  cases hv : v.ownBlock with
  | none => exact .inl rfl
  | some k =>
    refine .inr fun e => ?_
    exact hne k e.symm hv
/-- what writes only the row of 'v' leaves what lies below v's base -/
theorem below_owned {w w' : World} {base : Nat} {E : TypeId} {sz : Nat} {v : Value} {n : Nat} {xs : List Value} (h : w.ownsRow base E sz v n xs) (hg : w.grownBy w' v.ownBlock) (hb : base ≤ w.heap.size) : Below base w w' :=
  (Below.refl _ _).grown hg hb (fun k hk => (h.lt k hk).1)
theorem off_of {w w1 : World} {base : Nat} {E E1 : TypeId} {sz sz1 : Nat} {v v1 : Value} {n n1 : Nat} {xs xs1 : List Value} (h : w.ownsRow base E sz v n xs) (h1 : w1.ownsRow w.heap.size E1 sz1 v1 n1 xs1) : ∀ g, v1.ownBlock = some g → Off v g := by
  intro g hg hv
  have a := (h1.lt g hg).1
  have b := (h.lt g hv).2
  omega
theorem off_of' {w w1 : World} {base B1 : Nat} {E E1 : TypeId} {sz sz1 : Nat} {v v1 : Value} {n n1 : Nat} {xs xs1 : List Value} (h : w.ownsRow base E sz v n xs) (h1 : w1.ownsRow B1 E1 sz1 v1 n1 xs1) (hB : w.heap.size ≤ B1) : ∀ g, v.ownBlock = some g → Off v1 g := by
  intro g hg hv
  have a := (h1.lt g hv).1
  have b := (h.lt g hg).2
  omega

def marksI (k : Int) (n : Nat) : List Int := (List.range n).map (fun (j : Nat) => k + (j : Int))
theorem marksI_len (k : Int) (n : Nat) : (marksI k n).length = n := by simp [marksI]
theorem marksI_at {k : Int} {n j : Nat} (h : j < n) : (marksI k n)[j]? = some (k + j) := by simp [marksI, h]

theorem Rd.int {w : World} {B : Nat} {A : Option Addr} {n k : Nat} {xs : List Int} (h : Rd intC 1 w B A n xs) (hk : k < n) :
    ∃ b off x, A = some ⟨b, off, none⟩ ∧ b < B ∧ xs[k]? = some x ∧ w.cell? ⟨b, off + k, none⟩ = some (.int .i64 x) := by
  obtain ⟨b, off, x, e, hb, hx, hc⟩ := h.at_ hk
  have := hc 0 _ rfl
  rw [Nat.mul_one, Nat.add_zero] at this
  exact ⟨b, off, x, e, hb, hx, this⟩

end Go.Proofs.Ytchkcleenmoajaa

/- Tools for regions that make memory. -/
namespace Go.Proofs.Ytchkcleenmoajaa
open Go.RowKit

theorem bcellz {W w1 : World} (hb : Below W.heap.size W w1) : (∀ b o, b < W.heap.size → w1.cell? ⟨b, o, none⟩ = W.cell? ⟨b, o, none⟩) ∧ (∀ b o, b < W.heap.size → w1.frozen? ⟨b, o, none⟩ = W.frozen? ⟨b, o, none⟩) ∧ (∀ b, b < W.heap.size → b < w1.heap.size) :=
  ⟨fun b o h => hb.cell (p := ⟨b, o, none⟩) h, fun b o h => hb.frozen (p := ⟨b, o, none⟩) h, fun _ h => Nat.lt_of_lt_of_le h hb.size⟩
theorem startSM (W : World) (n : Nat) : (∀ b o, b < W.heap.size → (W.drewN n).drew.cell? ⟨b, o, none⟩ = W.cell? ⟨b, o, none⟩) ∧ Below W.heap.size W (W.drewN n).drew := ⟨fun _ _ _ => rfl, (below_drewN (Below.refl _ _) n).drew⟩
theorem ofBel {W w2 : World} (hb : Below W.heap.size W w2) : (∀ b o, b < W.heap.size → w2.cell? ⟨b, o, none⟩ = W.cell? ⟨b, o, none⟩) ∧ Below W.heap.size W w2 := ⟨fun b o h => hb.cell (p := ⟨b, o, none⟩) h, hb⟩
theorem keepCF_then {w w1 : World} {p : Addr} {v : Value} {G : Prop} (hb : Below w.heap.size w w1) (h : w.cell? p = some v) (hf : w.frozen? p = false) (k : w1.cell? p = some v → w1.frozen? p = false → p.block < w1.heap.size → G) : G :=
  k (keepC h hb) (keepF h hf hb) (World.block_lt_of_cell? _ _ (keepC h hb))
theorem own_set {w : World} {base g : Nat} {E : TypeId} {sz : Nat} {v : Value} {n : Nat} {xs : List Value} (h : w.ownsRow base E sz v n xs) (ho : Off v g) (j : Nat) (u : Value) : (w.setCell ⟨g, j, none⟩ u).ownsRow base E sz v n xs :=
  owns_grown (row := some g) h (grown_set (World.grownBy.refl _ _) _ _) (fun k hk => by injection hk with hk; rw [← hk]; exact ho)
theorem off_lt {w : World} {base g : Nat} {E : TypeId} {sz : Nat} {v : Value} {n : Nat} {xs : List Value} (h : w.ownsRow base E sz v n xs) (hg : g < base) : Off v g := by
  intro hv
  have := (h.lt g hv).1
  omega
theorem off_ge {w : World} {base g : Nat} {E : TypeId} {sz : Nat} {v : Value} {n : Nat} {xs : List Value} (h : w.ownsRow base E sz v n xs) (hg : w.heap.size ≤ g) : Off v g := by
  intro hv
  have := (h.lt g hv).2
  omega
theorem keepG_lt {w w1 : World} {base n : Nat} {E : TypeId} {sz : Nat} {v u : Value} {xs : List Value} {p : Addr} (h : w.cell? p = some u) (ho : w.ownsRow base E sz v n xs) (hg : w.grownBy w1 v.ownBlock) (hlt : p.block < base) : w1.cell? p = some u :=
  hg.cell h (fun e => by have := (ho.lt _ e.symm).1; omega)
theorem keepG_off {w w1 : World} {v u : Value} {p : Addr} (h : w.cell? p = some u) (hg : w.grownBy w1 v.ownBlock) (hoff : Off v p.block) : w1.cell? p = some u :=
  hg.cell h (fun e => hoff e.symm)
/-- a picture in a variable of the law's own, its row the callee's -/
def BoxP (W : World) (s : Int) (ys : List Col) (p : Value) (w : World) : Prop :=
  ∃ g B d, p = .pointer (some ⟨g, 0, none⟩) ∧ w.cell? ⟨g, 0, none⟩ = some (.int .i64 s) ∧ w.cell? ⟨g, 1, none⟩ = some (.slice B ys.length d) ∧ W.heap.size ≤ g ∧
    w.ownsRow W.heap.size 27 3 (.slice B ys.length d) ys.length (flat colC ys) ∧ Off (.slice B ys.length d) g ∧ Below W.heap.size W w
/-- the variable was made ahead of the callee -/
theorem boxP_first {W w0 w : World} {s : Int} {ys : List Col} {B : Option Addr} {d g : Nat} {u v : Value} (ho : w.ownsRow w0.heap.size 27 3 (.slice B ys.length d) ys.length (flat colC ys)) (hle : W.heap.size ≤ w0.heap.size) (hg0 : W.heap.size ≤ g) (hg : g < w0.heap.size)
    (h0 : w.cell? ⟨g, 0, none⟩ = some u) (h1 : w.cell? ⟨g, 1, none⟩ = some v) (hb : Below W.heap.size W w) : BoxP W s ys (.pointer (some ⟨g, 0, none⟩)) ((w.setCell ⟨g, 0, none⟩ (.int .i64 s)).setCell ⟨g, 1, none⟩ (.slice B ys.length d)) := by
  have off := off_lt ho hg
  refine ⟨g, B, d, rfl, ?_, ?_, hg0, owns_mono (own_set (own_set ho off _ _) off _ _) hle, off, (hb.setCell hg0 _).setCell hg0 _⟩
  · simp [go_sem, h0]
  · simp [go_sem, h1]
/-- the variable was made behind the callee -/
theorem boxP_last {W w0 w : World} {s : Int} {ys : List Col} {B : Option Addr} {d : Nat} (ho : w.ownsRow w0.heap.size 27 3 (.slice B ys.length d) ys.length (flat colC ys)) (hle : W.heap.size ≤ w0.heap.size)
    (hb : Below W.heap.size W w) : BoxP W s ys (.pointer (some ⟨w.heap.size, 0, none⟩)) (w.alloc (Obj.cells #[.int .i64 s, .slice B ys.length d] 40)) :=
  ⟨w.heap.size, B, d, rfl, by simp [go_sem], by simp [go_sem], hb.size, owns_mono (ho.alloc _) hle, off_ge ho (Nat.le_refl _), hb.alloc hb.size _⟩
end Go.Proofs.Ytchkcleenmoajaa

/- Draws: the cursor's worlds. -/
namespace Go.Proofs.Ytchkcleenmoajaa
open Go.RowKit
attribute [local go_sem] run_store_float run_store_complex

theorem CurB.off {w w' : World} {g : Nat} {A : Option Addr} {m c : Nat} {bs : List Int} {row : Option Nat} (h : CurB w g A m c bs) (hg : w.grownBy w' row) (ho : ∀ k, row = some k → g < k) : CurB w' g A m c bs := by
  obtain ⟨⟨i, x, hi, hh⟩, h2, h3, h4⟩ := h
  refine ⟨⟨i, x, hi, (hg.block g h3 (fun e => by have := ho g e.symm; omega)).trans hh⟩, h2.keep (fun p hp => World.cell?_of_block (hg.block p.block (by omega) (fun e => by have := ho _ e.symm; omega))), Nat.lt_of_lt_of_le h3 hg.size, h4⟩
theorem grown_mix {a b c : World} {row row2 : Option Nat} (h : a.grownBy b row) (k : b.grownBy c row2) (hr : ∀ j, row2 = some j → a.heap.size ≤ j) : a.grownBy c row :=
  ⟨k.os.trans h.os, k.tape.trans h.tape, k.output.trans h.output, Nat.le_trans h.size k.size, fun i hi hne => (k.block i (Nat.lt_of_lt_of_le hi h.size) (fun e => by have := hr i e.symm; omega)).trans (h.block i hi hne)⟩
theorem Rd.gro {α : Type} {enc : α → List Value} {sz : Nat} {w w' : World} {B f n : Nat} {xs : List α} {row : Option Nat} {o : Nat} (h : Rd enc sz w B (some ⟨f, o, none⟩) n xs) (hg : w.grownBy w' row) (hlt : f < w.heap.size) (hne : row ≠ some f) :
    Rd enc sz w' B (some ⟨f, o, none⟩) n xs :=
  ⟨h.1, fun hn => by
    obtain ⟨b, off, e, hb, hc⟩ := h.2 hn
    injection e with e
    injection e with e1 e2
    subst e1 e2
    exact ⟨f, o, rfl, hb, fun k x hx j u hu => (World.cell?_of_block (hg.block f hlt (fun e => hne e.symm))).trans (hc k x hx j u hu)⟩⟩
theorem CurB.drew {w : World} {g : Nat} {A : Option Addr} {m c : Nat} {bs : List Int} (h : CurB w g A m c bs) : CurB w.drew g A m c bs := h
theorem grown_undrew {w w' : World} {row : Option Nat} (h : w.drew.grownBy w' row) : w.grownBy w' row := ⟨h.os, h.tape, h.output, h.size, h.block⟩
theorem frG {w w' : World} {row : Option Nat} {b : Nat} (h : ∀ j, w.frozen? ⟨b, j, none⟩ = false) (hg : w.grownBy w' row) (hb : b < w.heap.size) (hne : row ≠ some b) : ∀ j, w'.frozen? ⟨b, j, none⟩ = false :=
  fun j => (World.frozen?_of_block (hg.block b hb (fun e => hne e.symm))).trans (h j)
theorem frB {w w' : World} {b : Nat} (h : ∀ j, w.frozen? ⟨b, j, none⟩ = false) (hg : Below w.heap.size w w') (hb : b < w.heap.size) : ∀ j, w'.frozen? ⟨b, j, none⟩ = false :=
  fun j => (hg.frozen (p := ⟨b, j, none⟩) hb).trans (h j)
theorem frS {w : World} {b : Nat} (h : ∀ j, w.frozen? ⟨b, j, none⟩ = false) (p : Addr) (u : Value) : ∀ j, (w.setCell p u).frozen? ⟨b, j, none⟩ = false := by
  intro j; simp [go_sem, h j]
theorem ne_of_off {v : Value} {f : Nat} (h : Off v f) : v.ownBlock ≠ some f := h
theorem owns_gt {w : World} {base : Nat} {E : TypeId} {sz : Nat} {v : Value} {n : Nat} {xs : List Value} (h : w.ownsRow base E sz v n xs) {g : Nat} (hg : g < base) : ∀ k, v.ownBlock = some k → g < k := fun k hk => by have := (h.lt k hk).1; omega
theorem owns_ge {w : World} {base : Nat} {E : TypeId} {sz : Nat} {v : Value} {n : Nat} {xs : List Value} (h : w.ownsRow base E sz v n xs) {b : Nat} (hg : b ≤ base) : ∀ k, v.ownBlock = some k → b ≤ k := fun k hk => by have := (h.lt k hk).1; omega
end Go.Proofs.Ytchkcleenmoajaa

/- firstCell, l4First: the least cell to which symmetries of mirrors lead. -/
namespace Go.Proofs.Ytchkcleenmoajaa
open Go.RowKit
attribute [local go_sem] run_store_float run_store_complex

def firstL (l : List (Int × Bool)) (size cell : Int) (k : Nat) : Int := (l.take k).foldl (fun o g => if cellV size cell g.1 g.2 < o then cellV size cell g.1 g.2 else o) cell
def firstI (kind size cell : Int) : Int := firstL (symsL kind) size cell (symsL kind).length
theorem firstL_succ {l : List (Int × Bool)} {k : Nat} {t : Int} {f : Bool} (size cell : Int) (h : l[k]? = some (t, f)) : firstL l size cell (k + 1) = if cellV size cell t f < firstL l size cell k then cellV size cell t f else firstL l size cell k := by
  unfold firstL
  rw [List.take_add_one, h, List.foldl_append]
  rfl

set_option maxRecDepth 10000 in
set_option maxHeartbeats 2000000 in
theorem firstCell_any (kind size cell : Int) (w : World) :
    Calls Try.prog 42 #[.int .i64 kind, .int .i64 size, .int .i64 cell] w fun e w' => e = .returned (.int .i64 (firstI kind size cell)) ∧ Below w.heap.size w w' := by
  go_enter Try.func42, Try.ntmps42
  go_wp2_with (go_at_call 13; refine (symsOf_any _ _).mono ?_; rintro e w1 ⟨A, c, rfl, ho1, hb1⟩; have r1 := Rd.of_own symC_len rfl ho1; clear ho1)
  obtain ⟨l, L⟩ : ∃ l, Hid (l = symsL kind) := ⟨_, Lib.hid rfl⟩
  rw [← L.out] at r1 ⊢
  obtain ⟨n, hn⟩ : ∃ n, n = l.length := ⟨_, rfl⟩
  have hn8 : n ≤ 8 := by rw [hn, L.out]; exact symsUp_len _ _
  rw [← hn] at r1 ⊢
  have HN := Lib.hid hn
  clear hn
  go_loopw [7, 14] (fun v i wr => ∃ k : Nat, k ≤ n ∧ i = .int .i64 k ∧ v = .int .i64 (firstL l size cell k) ∧ Below w1.heap.size w1 wr) (fun _ i _ => n - (intOf i).toNat)
  case atStart => exact ⟨0, by omega, rfl, rfl, Below.refl _ _⟩
  case round =>
    obtain ⟨k, hk, rfl, rfl, hw⟩ := hrel
    by_cases hlt : k < n
    · obtain ⟨b, off, t, f, rfl, hbl, hx, h0, h1⟩ := (r1.below hw).sym hlt
      have F := Lib.hid (firstL_succ size cell hx)
      have hki : (k : Int) < (n : Int) := by omega
      have hk0 : (0 : Int) ≤ (k : Int) := by omega
      have hz := hw.size
      clear hx
      go_wp2_with (go_at_call 37; refine (cellTo_any _ _ _ _ _).mono ?_; rintro e w2 ⟨rfl, hb2⟩)
      go_roundw
      case rel => exact ⟨k + 1, by omega, by go_num, by rw [F.out], by (repeat (first | with_reducible assumption | exact Below.refl _ _ | (refine Below.setCell ?_ (by first | exact Nat.le_refl _ | (simp; done) | omega | (simp; omega)) _) | (refine below_drewN ?_ _) | (refine Below.drew ?_) | (refine Below.alloc ?_ (by first | exact Nat.le_refl _ | (simp; done) | omega | (simp; omega)) _) | (refine then_ ?_ (by with_reducible assumption)) | assumption | (refine then_ ?_ (by assumption))))⟩
      case measure => simp [intOf]; omega
    · obtain rfl : k = n := by omega
      go_wp2
      go_ret
      exact ⟨by unfold firstI; rw [← L.out, ← HN.out]; rfl, by (repeat (first | with_reducible assumption | exact Below.refl _ _ | (refine Below.setCell ?_ (by first | exact Nat.le_refl _ | (simp; done) | omega | (simp; omega)) _) | (refine below_drewN ?_ _) | (refine Below.drew ?_) | (refine Below.alloc ?_ (by first | exact Nat.le_refl _ | (simp; done) | omega | (simp; omega)) _) | (refine then_ ?_ (by with_reducible assumption)) | assumption | (refine then_ ?_ (by assumption))))⟩

end Go.Proofs.Ytchkcleenmoajaa
