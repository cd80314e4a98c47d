
/- Marks on rows of the call's own, and what is held: ints. -/
import Derived.Test.YthlkpopmoodmgaaSyms
namespace Go.Proofs.Ythlkpopmoodmgaa
open Go.RowKit
attribute [local go_sem] run_store_float run_store_complex

theorem owns_grown {w w' : World} {base : Nat} {E : TypeId} {sz : Nat} {v : Value} {n : Nat} {xs : List Value} {row : Option Nat} (h : w.ownsRow base E sz v n xs) (hg : w.grownBy w' row) (hne : ∀ g, row = some g → Off v g) : w'.ownsRow base E sz v n xs := by
  refine h.kept hg ?_
  cases hv : v.ownBlock with
  | none => exact .inl rfl
  | some k =>
    refine .inr fun e => ?_
    exact hne k e.symm hv
/-- what writes only the row of 'v' leaves what lies below v's base -/
theorem below_owned {w w' : World} {base : Nat} {E : TypeId} {sz : Nat} {v : Value} {n : Nat} {xs : List Value} (h : w.ownsRow base E sz v n xs) (hg : w.grownBy w' v.ownBlock) (hb : base ≤ w.heap.size) : Below base w w' :=
  (Below.refl _ _).grown hg hb (fun k hk => (h.lt k hk).1)
theorem off_of {w w1 : World} {base : Nat} {E E1 : TypeId} {sz sz1 : Nat} {v v1 : Value} {n n1 : Nat} {xs xs1 : List Value} (h : w.ownsRow base E sz v n xs) (h1 : w1.ownsRow w.heap.size E1 sz1 v1 n1 xs1) : ∀ g, v1.ownBlock = some g → Off v g := by
  intro g hg hv
  have a := (h1.lt g hg).1
  have b := (h.lt g hv).2
  omega
theorem off_of' {w w1 : World} {base B1 : Nat} {E E1 : TypeId} {sz sz1 : Nat} {v v1 : Value} {n n1 : Nat} {xs xs1 : List Value} (h : w.ownsRow base E sz v n xs) (h1 : w1.ownsRow B1 E1 sz1 v1 n1 xs1) (hB : w.heap.size ≤ B1) : ∀ g, v.ownBlock = some g → Off v1 g := by
  intro g hg hv
  have a := (h1.lt g hv).1
  have b := (h.lt g hg).2
  omega

def marksI (k : Int) (n : Nat) : List Int := (List.range n).map (fun (j : Nat) => k + (j : Int))
theorem marksI_len (k : Int) (n : Nat) : (marksI k n).length = n := by simp [marksI]
theorem marksI_at {k : Int} {n j : Nat} (h : j < n) : (marksI k n)[j]? = some (k + j) := by simp [marksI, h]

set_option maxRecDepth 10000 in
set_option maxHeartbeats 1000000 in
theorem markIntS_any (A : Option Addr) (n c B : Nat) (k : Int) (ys0 : List Value) (w : World) (hn : n ≤ 4611686018427387904) (hk0 : 0 ≤ k) (hk1 : k ≤ 1048576) (ho : w.ownsRow B 3 1 (.slice A n c) n ys0) :
    Calls Try.prog 22 #[.slice A n c, .int .i64 k] w fun e w' => e = .returned (.int .i64 (k + n)) ∧ w'.ownsRow B 3 1 (.slice A n c) n (flat intC (marksI k n)) ∧ w.grownBy w' (Value.slice A n c).ownBlock := by
  have hl0 : ys0.length = (flat intC (marksI k n)).length := by rw [ho.1, flat_length intC_len, marksI_len]
  have H0 := Lib.hid hl0
  have HO := Lib.hid ho
  clear hl0
  go_enter Try.func22, Try.ntmps22
  go_wp2
  go_loopw [1, 5] (fun kk i wr => ∃ (j : Nat) (ys : List Value), j ≤ n ∧ i = .int .i64 j ∧ kk = .int .i64 (k + j) ∧ Pre j 1 ys (flat intC (marksI k n)) ∧ wr.ownsRow B 3 1 (.slice A n c) n ys ∧ w.grownBy wr (Value.slice A n c).ownBlock) (fun _ i _ => n - (intOf i).toNat)
  case atStart => exact ⟨0, ys0, Nat.zero_le _, rfl, by simp, Pre.zero H0.out, HO.out, World.grownBy.refl _ _⟩
  case round =>
    obtain ⟨j, ys, hj, rfl, rfl, hpre, hown, hg⟩ := hrel
    by_cases hlt : j < n
    · obtain ⟨g, rfl⟩ : ∃ g, A = some ⟨g, 0, none⟩ := by
        rcases hown.2 with ⟨_, h0⟩ | ⟨ga, _, _, h0, _⟩
        · omega
        · injection h0 with h1
          exact ⟨ga, h1⟩
      have e0 := flat_get intC_len (marksI k n) j _ (marksI_at hlt) 0 (.int .i64 (k + j)) rfl
      rw [Nat.mul_one, Nat.add_zero] at e0
      have P1 := Lib.hid (hpre.step1 e0)
      obtain ⟨v0, hv0⟩ := owns_cell hown j (by omega)
      have hfr := hown.frozenAt j
      have OW := Lib.hid hown
      clear hpre hown e0
      have hki : (j : Int) < (n : Int) := by omega
      have hk0 : (0 : Int) ≤ (j : Int) := by omega
      go_wp2
      go_roundw
      case rel =>
        refine ⟨j + 1, _, by omega, by go_num, by rw [Int.natCast_add, ← Int.add_assoc]; rfl, P1.out, (OW.out.stored j _).1, grown_set hg _ _⟩
      case measure => simp [intOf]; omega
    · obtain rfl : j = n := by omega
      have e : ys = flat intC (marksI k j) := hpre.done (by rw [flat_length intC_len, marksI_len]; omega)
      have OW := Lib.hid hown
      have EE := Lib.hid e
      clear hpre hown e
      go_wp2
      go_ret
      exact ⟨rfl, by rw [← EE.out]; exact OW.out, hg⟩

theorem Rd.int {w : World} {B : Nat} {A : Option Addr} {n k : Nat} {xs : List Int} (h : Rd intC 1 w B A n xs) (hk : k < n) :
    ∃ b off x, A = some ⟨b, off, none⟩ ∧ b < B ∧ xs[k]? = some x ∧ w.cell? ⟨b, off + k, none⟩ = some (.int .i64 x) := by
  obtain ⟨b, off, x, e, hb, hx, hc⟩ := h.at_ hk
  have := hc 0 _ rfl
  rw [Nat.mul_one, Nat.add_zero] at this
  exact ⟨b, off, x, e, hb, hx, this⟩

set_option maxRecDepth 10000 in
set_option maxHeartbeats 1000000 in
theorem heldIntS_any (A : Option Addr) (n c : Nat) (k : Int) (w : World) (hn : n ≤ 4611686018427387904) (hk0 : 0 ≤ k) (hk1 : k ≤ 1048576) (hr : Rd intC 1 w w.heap.size A n (marksI k n)) :
    Calls Try.prog 23 #[.slice A n c, .int .i64 k] w fun e w' => e = .returned (.int .i64 (k + n)) ∧ w = w' := by
  go_enter Try.func23, Try.ntmps23
  go_wp2
  go_loop [1, 5] (fun kk i => ∃ j : Nat, j ≤ n ∧ i = .int .i64 j ∧ kk = .int .i64 (k + j)) (fun _ i => n - (intOf i).toNat)
  case atStart => exact ⟨0, Nat.zero_le _, rfl, by simp⟩
  case round =>
    obtain ⟨j, hj, rfl, rfl⟩ := hrel
    by_cases hlt : j < n
    · obtain ⟨b, off, x, rfl, hb, hx, hc⟩ := hr.int hlt
      rw [marksI_at hlt] at hx
      injection hx with hx
      subst hx
      have hki : (j : Int) < (n : Int) := by omega
      have hk0 : (0 : Int) ≤ (j : Int) := by omega
      go_wp2
      go_round
      case rel => exact ⟨j + 1, by omega, by go_num, by rw [Int.natCast_add, ← Int.add_assoc]; rfl⟩
      case measure => simp [intOf]; omega
    · obtain rfl : j = n := by omega
      go_wp2
      go_ret
      exact ⟨rfl, rfl⟩

set_option maxRecDepth 10000 in
set_option maxHeartbeats 1000000 in
theorem eqIntS_any (A B : Option Addr) (n c d : Nat) (xs : List Int) (w : World) (hn : n ≤ maxLen) (ha : Rd intC 1 w w.heap.size A n xs) (hb : Rd intC 1 w w.heap.size B n xs) :
    Calls Try.prog 21 #[.slice A n c, .slice B n d] w fun e w' => e = .returned (.bool true) ∧ Below w.heap.size w w' := by
  unfold maxLen at hn
  go_enter Try.func21, Try.ntmps21
  go_wp2
  go_loopw [5] (fun i wr => ∃ k : Nat, k ≤ n ∧ i = .int .i64 k ∧ Below w.heap.size w wr) (fun i _ => n - (intOf i).toNat)
  case atStart => exact ⟨0, Nat.zero_le _, rfl, Below.refl _ _⟩
  case round =>
    obtain ⟨k, hk, rfl, hw⟩ := hrel
    by_cases hlt : k < n
    · obtain ⟨b, off, x, rfl, _, hx, h0⟩ := (ha.below hw).int hlt
      obtain ⟨b', off', x', rfl, _, hx', h0'⟩ := (hb.below hw).int hlt
      obtain rfl : x = x' := by rw [hx] at hx'; simpa using hx'
      clear hx hx'
      have hki : (k : Int) < (n : Int) := by omega
      have hk0 : (0 : Int) ≤ (k : Int) := by omega
      go_wp2
      go_quiet (fail)
      go_wp2
      go_roundw
      case rel => exact ⟨k + 1, by omega, by go_num, by (repeat (first | with_reducible assumption | exact Below.refl _ _ | (refine Below.setCell ?_ (by first | exact Nat.le_refl _ | (simp; done) | omega | (simp; omega)) _) | (refine below_drewN ?_ _) | (refine Below.drew ?_) | (refine Below.alloc ?_ (by first | exact Nat.le_refl _ | (simp; done) | omega | (simp; omega)) _) | (refine then_ ?_ (by with_reducible assumption)) | assumption | (refine then_ ?_ (by assumption))))⟩
      case measure => simp [intOf]; omega
    · obtain rfl : k = n := by omega
      go_wp2
      go_ret
      exact ⟨rfl, hw⟩
end Go.Proofs.Ythlkpopmoodmgaa
