
/- SameTumble of tumbles that are the same. -/
import Derived.Test.YtdjbpbolliphkaaTum
import Derived.Test.YtdjbpbolliphkaaSEq
namespace Go.Proofs.Ytdjbpbolliphkaa
open Go.RowKit
attribute [local go_sem] run_store_float run_store_complex

def cxE (p q : Pt) : Bool := eqB p.1 q.1 && eqB p.2 q.2
def bdE (b b' : Bd) : Bool := cxE b.1 b'.1 && cxE b.2 b'.2
theorem bdEq_fields (d : Nat) (b b' : Bd) (w : World) : (Op.eqFields (d + 1) #[.complex .f32 b.1.1 b.1.2, .complex .f32 b.2.1 b.2.2] #[.complex .f32 b'.1.1 b'.1.2, .complex .f32 b'.2.1 b'.2.2] (Try.prog.fieldsOf 33).toList).run Try.prog w = .ok (bdE b b') w := by
  have h : bdE b b' = (((FloatKind.f32.format.order b.1.1 b'.1.1 == some .eq) && (FloatKind.f32.format.order b.1.2 b'.1.2 == some .eq)) && ((FloatKind.f32.format.order b.2.1 b'.2.1 == some .eq) && (FloatKind.f32.format.order b.2.2 b'.2.2 == some .eq))) := rfl
  rw [h]
  have k := fun wx d a b a' b' => run_equalIn_complex (P := Try.prog) wx d 24 .f32 .f32 a b a' b' Try.underlying24
  cases h1 : ((FloatKind.f32.format.order b.1.1 b'.1.1 == some .eq) && (FloatKind.f32.format.order b.1.2 b'.1.2 == some .eq)) <;> cases h2 : ((FloatKind.f32.format.order b.2.1 b'.2.1 == some .eq) && (FloatKind.f32.format.order b.2.2 b'.2.2 == some .eq)) <;> simp [go_sem, Try.underlying33, k, h1, h2]
theorem run_neq_bd (b b' : Bd) (w : World) : (binOp .neq 33 (.agg #[.complex .f32 b.1.1 b.1.2, .complex .f32 b.2.1 b.2.2]) (.agg #[.complex .f32 b'.1.1 b'.1.2, .complex .f32 b'.2.1 b'.2.2])).run Try.prog w = .ok (.bool (!(bdE b b'))) w := by
  rw [run_neq_struct]
  have ht : Try.prog.underlying 33 = some (.struct (Try.prog.fieldsOf 33)) := by kernel_rfl
  have hp : Try.prog.stoodInHeld 33 = false := by kernel_rfl
  rw [run_equalIn_agg (P := Try.prog) w 9999 33 _ _ ht hp, bdEq_fields 9998]
  rfl

set_option maxHeartbeats 1000000 in
theorem equalBd_yes (A B : Option Addr) (n c d : Nat) (xs ys : List Bd) (w : World) (hn : n ≤ 8) (ha : Rd bdC 2 w w.heap.size A n xs) (hb : Rd bdC 2 w w.heap.size B n ys) (hs : ∀ (i : Nat) x y, xs[i]? = some x → ys[i]? = some y → bdE x y = true) :
    Calls Try.prog 38 #[.slice A n c, .slice B n d] w fun e w' => e = .returned (.bool true) ∧ Below w.heap.size w w' := by
  have HS := Lib.hid hs
  have hz : ((n : Int) != (n : Int)) = false := by simp
  clear hs
  go_enter Try.func38, Try.ntmps38
  go_wp2
  go_loopw [5, 13] (fun _ i wr => ∃ k : Nat, k ≤ n ∧ i = .int .i64 k ∧ Below w.heap.size w wr) (fun _ i _ => n - (intOf i).toNat)
  case atStart => exact ⟨0, Nat.zero_le _, rfl, Below.refl _ _⟩
  case round =>
    obtain ⟨k, hk, rfl, hw⟩ := hrel
    by_cases hlt : k < n
    · obtain ⟨b, off, a, v, rfl, hbl, hx, h0, h1⟩ := (ha.below hw).bd hlt
      obtain ⟨b', off', a', v', rfl, hbl', hy, h0', h1'⟩ := (hb.below hw).bd hlt
      have hki : (k : Int) < (n : Int) := by omega
      have hk0 : (0 : Int) ≤ (k : Int) := by omega
      have kc := fun wx => run_neq_bd (a, v) (a', v') wx
      rw [HS.out k _ _ hx hy] at kc
      dsimp only at kc
      clear hx hy
      go_wp2
      go_quiet (fail)
      go_wp2
      go_roundw
      case rel => exact ⟨k + 1, by omega, by go_num, by (repeat (first | with_reducible assumption | exact Below.refl _ _ | (refine Below.setCell ?_ (by first | exact Nat.le_refl _ | (simp; done) | omega | (simp; omega)) _) | (refine below_drewN ?_ _) | (refine Below.drew ?_) | (refine Below.alloc ?_ (by first | exact Nat.le_refl _ | (simp; done) | omega | (simp; omega)) _) | (refine then_ ?_ (by with_reducible assumption)) | assumption | (refine then_ ?_ (by assumption))))⟩
      case measure => simp [intOf]; omega
    · obtain rfl : k = n := by omega
      go_wp2
      go_ret
      exact ⟨rfl, hw⟩

set_option maxHeartbeats 1000000 in
theorem sameTumble_yes (mir : Int) (gr gr' : Pt) (loss loss' : Nat) (A B : Option Addr) (n c d : Nat) (xs ys : List Bd) (w : World) (hn : n ≤ 8) (ha : Rd bdC 2 w w.heap.size A n xs) (hb : Rd bdC 2 w w.heap.size B n ys) (hg : cxE gr gr' = true) (hl : eqB loss loss' = true) (hs : ∀ (i : Nat) x y, xs[i]? = some x → ys[i]? = some y → bdE x y = true) :
    Calls Try.prog 16 #[.agg #[.int .i64 mir, .complex .f32 gr.1 gr.2, .float .f32 loss, .slice A n c], .agg #[.int .i64 mir, .complex .f32 gr'.1 gr'.2, .float .f32 loss', .slice B n d]] w fun e w' => e = .returned (.bool true) ∧ Below w.heap.size w w' := by
  have e1 : ((FloatKind.f32.format.order gr.1 gr'.1 == some .eq) && (FloatKind.f32.format.order gr.2 gr'.2 == some .eq)) = true := hg
  have e2 : (FloatKind.f32.format.order loss loss' == some .eq) = true := hl
  have hm : (mir == mir) = true := by simp
  rw [Bool.and_eq_true] at e1
  obtain ⟨e1, e3⟩ := e1
  have HS := Lib.hid hs
  clear hg hl hs
  go_enter Try.func16, Try.ntmps16
  go_wp2_with (go_at_call 38; refine (equalBd_yes A B n c d xs ys _ hn (ha.step ?_) (hb.step ?_) HS.out).mono ?_; (repeat (first | with_reducible assumption | exact Below.refl _ _ | (refine Below.setCell ?_ (by first | exact Nat.le_refl _ | (simp; done) | omega | (simp; omega)) _) | (refine below_drewN ?_ _) | (refine Below.drew ?_) | (refine Below.alloc ?_ (by first | exact Nat.le_refl _ | (simp; done) | omega | (simp; omega)) _) | (refine then_ ?_ (by with_reducible assumption)) | assumption | (refine then_ ?_ (by assumption)))); rintro e w' ⟨rfl, hb1⟩)
  go_ret
  exact ⟨rfl, by (repeat (first | with_reducible assumption | exact Below.refl _ _ | (refine Below.setCell ?_ (by first | exact Nat.le_refl _ | (simp; done) | omega | (simp; omega)) _) | (refine below_drewN ?_ _) | (refine Below.drew ?_) | (refine Below.alloc ?_ (by first | exact Nat.le_refl _ | (simp; done) | omega | (simp; omega)) _) | (refine then_ ?_ (by with_reducible assumption)) | assumption | (refine then_ ?_ (by assumption))))⟩
end Go.Proofs.Ytdjbpbolliphkaa
