
/- slices.SortFunc on at most twelve points: what it leaves is a row of as many. -/
import Derived.Test.YthlkpopmoodmgaaMem
import Derived.Test.YthlkpopmoodmgaaOwn
import Derived.Test.YthlkpopmoodmgaaEq2
import Derived.Test.YthlkpopmoodmgaaReg
import Derived.Test.YthlkpopmoodmgaaKept
import Derived.Deep.RegionLaw
import Derived.Lib.Tables
namespace Go.Proofs.Ythlkpopmoodmgaa
open Go.RowKit
attribute [local go_sem] run_store_float run_store_complex

set_option maxHeartbeats 2000000 in
theorem orbF_any (a b a' b' : Nat) (w : World) :
    Calls Try.prog 96 #[.complex .f32 a b, .complex .f32 a' b'] w fun e w' => ∃ n : Int, e = .returned (.int .i64 n) ∧ w = w' := by
  cases h1 : (FloatKind.f32.format.order a a' == some .lt)
  · cases h2 : (FloatKind.f32.format.order a a' == some .eq)
    · go_enter Try.func96, Try.ntmps96
      go_wp2
      go_ret
      exact ⟨_, rfl, rfl⟩
    · cases h3 : (FloatKind.f32.format.order b b' == some .lt)
      · cases h4 : (FloatKind.f32.format.order b b' == some .eq)
        · go_enter Try.func96, Try.ntmps96
          go_wp2
          go_ret
          exact ⟨_, rfl, rfl⟩
        · go_enter Try.func96, Try.ntmps96
          go_wp2
          go_ret
          exact ⟨_, rfl, rfl⟩
      · go_enter Try.func96, Try.ntmps96
        go_wp2
        go_ret
        exact ⟨_, rfl, rfl⟩
  · go_enter Try.func96, Try.ntmps96
    go_wp2
    go_ret
    exact ⟨_, rfl, rfl⟩

theorem flat_setx {ys : List (Nat × Nat)} : ∀ {i : Nat}, i < ys.length → ∀ (a b : Nat), flat cxC (ys.set i (a, b)) = (flat cxC ys).set i (.complex .f32 a b) := by
  induction ys with
  | nil => intro i h; simp at h
  | cons y ys ih =>
    intro i h a b
    cases i with
    | zero => rfl
    | succ i =>
      rw [List.set_cons_succ, flat_cons, flat_cons, ih (by simpa using h)]
      rfl
theorem own_cx {w : World} {base : Nat} {g n c : Nat} {zs : List (Nat × Nat)} (h : w.ownsRow base 72 1 (.slice (some ⟨g, 0, none⟩) n c) n (flat cxC zs)) (hl : zs.length = n) {j : Nat} (hj : j < n) :
    ∃ a b, zs[j]? = some (a, b) ∧ w.cell? ⟨g, j, none⟩ = some (.complex .f32 a b) := by
  obtain ⟨⟨a, b⟩, hx⟩ : ∃ x, zs[j]? = some x := ⟨_, List.getElem?_eq_getElem (by omega)⟩
  refine ⟨a, b, hx, ?_⟩
  rw [h.cellAt j (by omega)]
  have := flat_get (enc := cxC) (sz := 1) (fun _ => rfl) zs j _ hx 0 _ rfl
  simpa using this
theorem own_drew {w : World} {base : Nat} {E : TypeId} {sz : Nat} {v : Value} {n : Nat} {xs : List Value} (h : w.ownsRow base E sz v n xs) : w.drew.ownsRow base E sz v n xs := h
theorem own_drewN {w : World} {base : Nat} {E : TypeId} {sz : Nat} {v : Value} {n : Nat} {xs : List Value} (h : w.ownsRow base E sz v n xs) (k : Nat) : (w.drewN k).ownsRow base E sz v n xs := h
theorem own_setx {w : World} {base : Nat} {g n c : Nat} {zs : List (Nat × Nat)} (h : w.ownsRow base 72 1 (.slice (some ⟨g, 0, none⟩) n c) n (flat cxC zs)) (hl : zs.length = n) {j : Nat} (hj : j < n) (a b : Nat) :
    (w.setCell ⟨g, j, none⟩ (.complex .f32 a b)).ownsRow base 72 1 (.slice (some ⟨g, 0, none⟩) n c) n (flat cxC (zs.set j (a, b))) := by
  rw [flat_setx (by omega)]
  exact (h.stored j _).1

set_option maxRecDepth 100000 in
set_option maxHeartbeats 4000000 in
theorem insSort_any (g n c base : Nat) (zs : List (Nat × Nat)) (w : World) (hn : n ≤ 12) (hl : zs.length = n) (ho : w.ownsRow base 72 1 (.slice (some ⟨g, 0, none⟩) n c) n (flat cxC zs)) :
    Calls Try.prog 130 #[.slice (some ⟨g, 0, none⟩) n c, .int .i64 0, .int .i64 (n : Int), .func (.func 96) #[] #[]] w fun e w' => e = .returned (.tuple #[]) ∧ ∃ zs' : List (Nat × Nat), zs'.length = n ∧ w'.ownsRow base 72 1 (.slice (some ⟨g, 0, none⟩) n c) n (flat cxC zs') ∧ Below base w w' := by
  have gb := (ho.lt g rfl).1
  have HO := Lib.hid ho
  have HL := Lib.hid hl
  clear ho hl
  go_enter Try.func130, Try.ntmps130
  go_wp2
  go_loopw [8] (fun i wr => ∃ (k : Nat) (zs' : List (Nat × Nat)), 1 ≤ k ∧ i = .int .i64 k ∧ zs'.length = n ∧ wr.ownsRow base 72 1 (.slice (some ⟨g, 0, none⟩) n c) n (flat cxC zs') ∧ Below base w wr) (fun i _ => n - (intOf i).toNat)
  case atStart => exact ⟨1, zs, Nat.le_refl _, by simp, HL.out, HO.out, Below.refl _ _⟩
  case round =>
    clear HO HL
    obtain ⟨k, zs1, hk, rfl, hl1, hown1, hw1⟩ := hrel
    by_cases hlt : k < n
    · have hki : (k : Int) < (n : Int) := by omega
      have hk0 : (0 : Int) ≤ (k : Int) := by omega
      have O1 := Lib.hid hown1
      have L1 := Lib.hid hl1
      have W1 := Lib.hid hw1
      clear hown1 hl1 hw1
      go_wp2
      go_loopw [9] (fun i wr => ∃ (j : Nat) (zs' : List (Nat × Nat)), j < n ∧ i = .int .i64 j ∧ zs'.length = n ∧ wr.ownsRow base 72 1 (.slice (some ⟨g, 0, none⟩) n c) n (flat cxC zs') ∧ Below base w wr) (fun i _ => (intOf i).toNat)
      case atStart => exact ⟨k, zs1, hlt, rfl, L1.out, O1.out, W1.out⟩
      case round =>
        clear O1 L1 W1
        obtain ⟨j, zs2, hj, rfl, hl2, hown2, hw2⟩ := hrel
        by_cases hj0 : 0 < j
        · obtain ⟨J, hJ⟩ : ∃ J, J = j - 1 := ⟨_, rfl⟩
          obtain ⟨a, b, hx1, c1⟩ := own_cx hown2 hl2 (j := j) (by omega)
          obtain ⟨a', b', hx0, c0⟩ := own_cx hown2 hl2 (j := J) (by omega)
          have O2 := Lib.hid hown2
          have L2 := Lib.hid hl2
          have f1 := hown2.frozenAt j
          have f0 := hown2.frozenAt J
          have lb := (hown2.lt g rfl).2
          have hji0 : (0 : Int) < (j : Int) := by omega
          have hji1 : (0 : Int) ≤ (j : Int) := by omega
          have hjin : (j : Int) < (n : Int) := by omega
          have hJi0 : (0 : Int) ≤ (J : Int) := by omega
          have hJin : (J : Int) < (n : Int) := by omega
          have hwr : IntKind.i64.wrap ((j : Int) - 1) = (J : Int) := by rw [IntKind.wrap_i64]; omega
          have hgt : decide ((0 : Int) < (j : Int)) = true := by simpa using hj0
          have hne : ¬ J = j := by omega
          have hne' : ¬ j = J := by omega
          have HJ := Lib.hid hJ
          clear hx0 hx1 hown2 hl2 hJ
          go_wp2_with fail
          go_region_held3 (fun w' => (∀ b o, b < wr.heap.size → w'.cell? ⟨b, o, none⟩ = wr.cell? ⟨b, o, none⟩) ∧ Below wr.heap.size wr w') (first | assumption | exact startS _ | exact stepS (by assumption) (by assumption)) (first | (go_at_call 96; refine (orbF_any _ _ _ _ _).mono ?_; rintro e w5 ⟨nn, rfl, rfl⟩))
          by_cases hneg : nn < 0
          · go_wp2_with fail
            go_region_law (fail)
            all_goals
              go_wp2
              go_roundw
              case rel =>
                first
                  | exact ⟨J, (zs2.set j (a', b')).set J (a, b), by have := HJ.out; omega, rfl, by simp [L2.out], own_drew (own_drew (own_setx (own_setx O2.out L2.out hj a' b') (by simp [L2.out]) (by have := HJ.out; omega) a b)), ((hw2.setCell gb _).setCell gb _).drew.drew⟩
                  | exact ⟨J, (zs2.set J (a, b)).set j (a', b'), by have := HJ.out; omega, rfl, by simp [L2.out], own_drew (own_drew (own_setx (own_setx O2.out L2.out (by have := HJ.out; omega) a b) (by simp [L2.out]) hj a' b')), ((hw2.setCell gb _).setCell gb _).drew.drew⟩
              case measure => simp [intOf]; have := HJ.out; omega
          · go_wp2
            go_roundw
            case rel => exact ⟨k + 1, zs2, by omega, by go_num, L2.out, own_drew O2.out, hw2.drew⟩
            case measure => simp [intOf]; omega
        · obtain rfl : j = 0 := by omega
          have O2 := Lib.hid hown2
          have L2 := Lib.hid hl2
          have W2 := Lib.hid hw2
          clear hown2 hl2 hw2
          go_wp2_with fail
          go_quiet (fail)
          go_wp2
          go_roundw
          case rel => exact ⟨k + 1, zs2, by omega, by go_num, L2.out, own_drewN O2.out _, below_drewN W2.out _⟩
          case measure => simp [intOf]; omega
    · go_wp2
      go_end0
      exact ⟨rfl, zs1, hl1, hown1, hw1⟩
end Go.Proofs.Ythlkpopmoodmgaa
