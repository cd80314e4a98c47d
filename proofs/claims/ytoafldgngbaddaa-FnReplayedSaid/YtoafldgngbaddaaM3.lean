/- DrawP · Flt · FltM · FltK · FltN · DrawT · DrawE · Sym · Syms · Own · Reg -/
import Derived.Test.YtoafldgngbaddaaM0
import Derived.Test.YtoafldgngbaddaaFltQ
import Derived.Test.YtoafldgngbaddaaFltR
import Derived.Maps.AppendAt
import Derived.Deep.RegionHeld3
import Derived.Deep.DeepCutAuto

/- Draws of numbers and of colours. -/
namespace Go.Proofs.Ytoafldgngbaddaa
open Go.RowKit
attribute [local go_sem] run_store_float run_store_complex

/-- the cursor and its bytes -/
def CurB (w : World) (g : Nat) (A : Option Addr) (m c : Nat) (bs : List Int) : Prop := Cur w g A m c ∧ Rd byteC 1 w g A m bs ∧ g < w.heap.size ∧ (∀ x ∈ bs, 0 ≤ x ∧ x ≤ 255) ∧ m ≤ maxLen
theorem Cur.lt {w : World} {g : Nat} {A : Option Addr} {m c : Nat} (h : Cur w g A m c) : g < w.heap.size := by
  obtain ⟨i, h, _, hh⟩ := h
  rcases Nat.lt_or_ge g w.heap.size with hlt | hge
  · exact hlt
  · rw [Array.getElem?_eq_none hge] at hh; cases hh
theorem CurB.gr {w w' : World} {g : Nat} {A : Option Addr} {m c : Nat} {bs : List Int} (h : CurB w g A m c bs) (hc : Cur w' g A m c) (hg : w.grownBy w' (some g)) : CurB w' g A m c bs :=
  ⟨hc, h.2.1.keep (fun p hp => World.cell?_of_block (hg.block p.block (by have := h.2.2.1; omega) (fun e => by injection e with e; omega))), hc.lt, h.2.2.2⟩
theorem CurB.step {w w' : World} {g : Nat} {A : Option Addr} {m c : Nat} {bs : List Int} (h : CurB w g A m c bs) (hb : Below w.heap.size w w') : CurB w' g A m c bs := by
  obtain ⟨⟨i, x, hi, hh⟩, h2, h3, h4⟩ := h
  exact ⟨⟨i, x, hi, (hb.block g h3).trans hh⟩, h2.keep (fun p hp => hb.cell (p := p) (by omega)), Nat.lt_of_lt_of_le h3 hb.size, h4⟩

theorem l1BelowC (g : Nat) (A : Option Addr) (m c : Nat) (bs : List Int) (n : Int) (w : World) (hn : 1 ≤ n) (hn2 : n ≤ 256) (hc : CurB w g A m c bs) :
    Calls Try.prog 60 #[.pointer (some ⟨g, 0, none⟩), .int .i64 n] w fun e w' => ∃ x : Nat, (x : Int) < n ∧ e = .returned (.int .i64 x) ∧ CurB w' g A m c bs ∧ w.grownBy w' (some g) := by
  refine (l1Below_any g A m c bs n w hn hn2 hc.2.2.2.2 hc.1 hc.2.1 hc.2.2.2.1).mono ?_
  rintro e w' ⟨x, hx, rfl, h1, h2⟩
  exact ⟨x, hx, rfl, hc.gr h1 h2, h2⟩

theorem l1OnceC (g : Nat) (A : Option Addr) (m c : Nat) (bs : List Int) (n : Int) (w : World) (hn : 1 ≤ n) (hn2 : n ≤ 256) (hc : CurB w g A m c bs) :
    Calls Try.prog 98 #[.pointer (some ⟨g, 0, none⟩), .int .i64 n] w fun e w' => ∃ b : Bool, e = .returned (.bool b) ∧ CurB w' g A m c bs ∧ w.grownBy w' (some g) := by
  go_enter Try.func98, Try.ntmps98
  go_wp2_with (go_at_call 60; refine (l1BelowC g A m c bs n _ hn hn2 hc).mono ?_; rintro e w1 ⟨x, hx, rfl, hc1, hg1⟩)
  go_ret
  exact ⟨_, rfl, hc1, hg1⟩

theorem l1SomeC (g : Nat) (A : Option Addr) (m c : Nat) (bs : List Int) (lo hi : Int) (w : World) (h0 : 0 ≤ lo) (h1 : lo ≤ hi) (h2 : hi ≤ 200) (hc : CurB w g A m c bs) :
    Calls Try.prog 59 #[.pointer (some ⟨g, 0, none⟩), .int .i64 lo, .int .i64 hi] w fun e w' => ∃ x : Int, lo ≤ x ∧ x ≤ hi ∧ e = .returned (.int .i64 x) ∧ CurB w' g A m c bs ∧ w.grownBy w' (some g) := by
  go_enter Try.func59, Try.ntmps59
  go_wp2_with fail
  refine (l1BelowC g A m c bs (hi - lo + 1) _ (by omega) (by omega) hc).mono ?_
  rintro e w1 ⟨x, hx, rfl, hc1, hg1⟩
  go_wp2
  go_ret
  exact ⟨lo + (x : Int), by omega, by omega, rfl, hc1, hg1⟩

def quoB (k : Nat) : Nat := match floatBits .quo .f32 (fl k) 1120403456 with | some r => r | none => 0
theorem quo_all : ∀ k : Nat, k < 101 → floatBits .quo .f32 (fl k) 1120403456 = some (quoB k) ∧ partB (quoB k) = true := by decide +kernel
theorem part_1 : partB 0 = true := by decide +kernel
theorem part_2 : partB 1065353216 = true := by decide +kernel
theorem part_3 : partB 1056964608 = true := by decide +kernel
theorem part_4 : partB 1048576000 = true := by decide +kernel

set_option maxHeartbeats 1000000 in
theorem l2OneC (g : Nat) (A : Option Addr) (m c : Nat) (bs : List Int) (w : World) (hc : CurB w g A m c bs) :
    Calls Try.prog 96 #[.pointer (some ⟨g, 0, none⟩)] w fun e w' => ∃ x : Nat, partB x = true ∧ e = .returned (.float .f32 x) ∧ CurB w' g A m c bs ∧ w.grownBy w' (some g) := by
  go_enter Try.func96, Try.ntmps96
  go_wp2_with fail
  refine (l1OnceC g A m c bs 3 _ (by omega) (by omega) hc).mono ?_
  rintro e w1 ⟨b, rfl, hc1, hg1⟩
  cases b
  · go_wp2_with fail
    refine (l1BelowC g A m c bs 101 _ (by omega) (by omega) hc1).mono ?_
    rintro e w2 ⟨y, hy, rfl, hc2, hg2⟩
    obtain ⟨q1, q2⟩ := quo_all y (by omega)
    have Q2 := Lib.hid q2
    obtain ⟨r, hr⟩ : ∃ r, r = quoB y := ⟨_, rfl⟩
    rw [← hr] at q1 Q2
    have hq := fun wx => run_float_arith (P := Try.prog) wx .quo 22 .f32 (fl y) 1120403456 r q1
    unfold fl at hq
    clear q1 q2 hr
    go_wp2
    go_ret
    exact ⟨r, Q2.out, rfl, hc2, grown_trans hg1 hg2⟩
  · go_wp2_with fail
    obtain ⟨W, hWe⟩ : ∃ W, W = w1.alloc (Obj.cells #[.float .f32 0, .float .f32 1065353216, .float .f32 1056964608, .float .f32 1048576000] 22) := ⟨_, rfl⟩
    have hW : Below w1.heap.size w1 W := by rw [hWe]; (repeat (first | with_reducible assumption | exact Below.refl _ _ | (refine Below.setCell ?_ (by first | exact Nat.le_refl _ | (simp; done) | omega | (simp; omega)) _) | (refine below_drewN ?_ _) | (refine Below.drew ?_) | (refine Below.alloc ?_ (by first | exact Nat.le_refl _ | (simp; done) | omega | (simp; omega)) _) | (refine then_ ?_ (by with_reducible assumption)) | assumption | (refine then_ ?_ (by assumption))))
    have zW : w1.heap.size < W.heap.size := by rw [hWe]; simp
    have q0 : W.cell? ⟨w1.heap.size, 0, none⟩ = some (.float .f32 0) := by rw [hWe]; simp [go_sem]
    have q1 : W.cell? ⟨w1.heap.size, 1, none⟩ = some (.float .f32 1065353216) := by rw [hWe]; simp [go_sem]
    have q2 : W.cell? ⟨w1.heap.size, 2, none⟩ = some (.float .f32 1056964608) := by rw [hWe]; simp [go_sem]
    have q3 : W.cell? ⟨w1.heap.size, 3, none⟩ = some (.float .f32 1048576000) := by rw [hWe]; simp [go_sem]
    rw [← hWe]
    clear hWe
    have hne : w1.heap.size ≠ g := by have := hc1.2.2.1; omega
    refine (l1BelowC g A m c bs 4 _ (by omega) (by omega) (hc1.step hW)).mono ?_
    rintro e w2 ⟨y, hy, rfl, hc2, hg2⟩
    have hk := fun o => (gcell hg2).1 w1.heap.size o zW hne
    have c0 := (hk 0).trans q0
    have c1 := (hk 1).trans q1
    have c2 := (hk 2).trans q2
    have c3 := (hk 3).trans q3
    have G2 := grown_trans (grown_trans hg1 (grown_of_below hW (some g))) hg2
    clear q0 q1 q2 q3 hk hg1 hW hc1 hg2
    have e : y = 0 ∨ y = 1 ∨ y = 2 ∨ y = 3 := by omega
    rcases e with rfl | rfl | rfl | rfl
    · go_wp2
      go_ret
      exact ⟨_, part_1, rfl, hc2, G2⟩
    · go_wp2
      go_ret
      exact ⟨_, part_2, rfl, hc2, G2⟩
    · go_wp2
      go_ret
      exact ⟨_, part_3, rfl, hc2, G2⟩
    · go_wp2
      go_ret
      exact ⟨_, part_4, rfl, hc2, G2⟩

theorem grown_new {a w : World} {row : Option Nat} {p : Addr} (h : a.grownBy w row) (hp : a.heap.size ≤ p.block) (u : Value) : a.grownBy (w.setCell p u) row :=
  ⟨h.os, h.tape, h.output, by simpa [World.setCell] using h.size, fun i hi hne => (Below.heap_setCell w p u i (by omega)).trans (h.block i hi hne)⟩
theorem curB_set {w : World} {g : Nat} {A : Option Addr} {m c : Nat} {bs : List Int} {p : Addr} (h : CurB w g A m c bs) (hp : g < p.block) (u : Value) : CurB (w.setCell p u) g A m c bs := by
  obtain ⟨⟨i, x, hi, hh⟩, h2, h3, h4⟩ := h
  refine ⟨⟨i, x, hi, (Below.heap_setCell w p u g (by omega)).trans hh⟩, h2.keep (fun q hq => World.cell?_setCell_other w p q u (fun e => ?_)), by simpa [World.setCell] using h3, h4⟩
  rw [e] at hp; omega

set_option maxHeartbeats 1000000 in
theorem l2DrawC (g : Nat) (A : Option Addr) (m c : Nat) (bs : List Int) (w : World) (hc : CurB w g A m c bs) :
    Calls Try.prog 62 #[.pointer (some ⟨g, 0, none⟩)] w fun e w' => ∃ x y z : Nat, colB (x, y, z) = true ∧ e = .returned (.agg #[.float .f32 x, .float .f32 y, .float .f32 z]) ∧ CurB w' g A m c bs ∧ w.grownBy w' (some g) := by
  have hgw := hc.2.2.1
  go_enter Try.func62, Try.ntmps62
  go_wp2_with fail
  obtain ⟨W, hWe⟩ : ∃ W, W = w.alloc (Obj.cells #[.float .f32 0, .float .f32 0, .float .f32 0] 25) := ⟨_, rfl⟩
  have hW : Below w.heap.size w W := by rw [hWe]; (repeat (first | with_reducible assumption | exact Below.refl _ _ | (refine Below.setCell ?_ (by first | exact Nat.le_refl _ | (simp; done) | omega | (simp; omega)) _) | (refine below_drewN ?_ _) | (refine Below.drew ?_) | (refine Below.alloc ?_ (by first | exact Nat.le_refl _ | (simp; done) | omega | (simp; omega)) _) | (refine then_ ?_ (by with_reducible assumption)) | assumption | (refine then_ ?_ (by assumption))))
  have zW : w.heap.size < W.heap.size := by rw [hWe]; simp
  have q0 : W.cell? ⟨w.heap.size, 0, none⟩ = some (.float .f32 0) := by rw [hWe]; simp [go_sem]
  have q1 : W.cell? ⟨w.heap.size, 1, none⟩ = some (.float .f32 0) := by rw [hWe]; simp [go_sem]
  have q2 : W.cell? ⟨w.heap.size, 2, none⟩ = some (.float .f32 0) := by rw [hWe]; simp [go_sem]
  have f0 : ∀ j, W.frozen? ⟨w.heap.size, j, none⟩ = false := by intro j; rw [hWe]; simp [go_sem]
  rw [← hWe]
  clear hWe
  have hne : w.heap.size ≠ g := by omega
  refine (l2OneC g A m c bs _ (hc.step hW)).mono ?_
  rintro e w1 ⟨x, hx, rfl, hc1, hg1⟩
  go_wp2_with fail
  refine (l2OneC g A m c bs _ hc1).mono ?_
  rintro e w2 ⟨y, hy, rfl, hc2, hg2⟩
  go_wp2_with fail
  refine (l2OneC g A m c bs _ hc2).mono ?_
  rintro e w3 ⟨z, hz, rfl, hc3, hg3⟩
  have G := grown_trans (grown_trans hg1 hg2) hg3
  have hk := fun o => (gcell G).1 w.heap.size o zW hne
  have hfk := fun o => ((gcell G).2 w.heap.size o zW hne).trans (f0 o)
  have c0 := (hk 0).trans q0
  have c1 := (hk 1).trans q1
  have c2 := (hk 2).trans q2
  have GW := grown_trans (grown_of_below hW (some g)) G
  have X := Lib.hid (show colB (x, y, z) = true by unfold colB; rw [hx, hy, hz]; rfl)
  clear q0 q1 q2 hk f0 hg1 hg2 hg3 hW hc1 hc2 G hx hy hz
  go_wp2
  exact bodyPost_ret (v := .agg #[.float .f32 x, .float .f32 y, .float .f32 z]) (by simp [results, Try.results62, go_sem, *]) rfl ⟨x, y, z, X.out, rfl, curB_set (curB_set (curB_set hc3 hgw _) hgw _) hgw _, grown_new (grown_new (grown_new GW (Nat.le_refl _) _) (Nat.le_refl _) _) (Nat.le_refl _) _⟩
end Go.Proofs.Ytoafldgngbaddaa

/- Plain facts about float32 words: their order is that of their rungs; the sign of a difference. No program. -/
namespace Go.Proofs.Ytoafldgngbaddaa
open Ieee

/-- the magnitude of a rung, in units of the least place -/
def magV (r : Nat) : Nat := if r < 8388608 then r else (8388608 + r % 8388608) * 2 ^ (r / 8388608 - 1)
def negB (x : Nat) : Bool := x / 2147483648 % 2 == 1
def rung (x : Nat) : Nat := x % 2147483648
def key (x : Nat) : Int := if negB x then -(rung x : Int) else (rung x : Int)
/-- the value, in units of the least place -/
def valV (x : Nat) : Int := if negB x then -(magV (rung x) : Int) else (magV (rung x) : Int)

theorem magV_lt {r r' : Nat} (h : r < r') : magV r < magV r' := by
  unfold magV
  by_cases h1 : r < 8388608
  · by_cases h2 : r' < 8388608
    · rw [if_pos h1, if_pos h2]; exact h
    · rw [if_pos h1, if_neg h2]
      have : 1 ≤ 2 ^ (r' / 8388608 - 1) := Nat.two_pow_pos _
      have : (8388608 + r' % 8388608) * 1 ≤ (8388608 + r' % 8388608) * 2 ^ (r' / 8388608 - 1) := Nat.mul_le_mul_left _ this
      omega
  · have h2 : ¬ r' < 8388608 := by omega
    rw [if_neg h1, if_neg h2]
    have hq : r / 8388608 ≤ r' / 8388608 := Nat.div_le_div_right (by omega)
    rcases Nat.lt_or_ge (r / 8388608) (r' / 8388608) with hlt | hge
    · have e : r' / 8388608 - 1 = (r / 8388608 - 1) + 1 + (r' / 8388608 - 1 - (r / 8388608 - 1) - 1) := by omega
      rw [e, Nat.pow_add, Nat.pow_add]
      generalize r' / 8388608 - 1 - (r / 8388608 - 1) - 1 = d
      have hp : 0 < 2 ^ (r / 8388608 - 1) := Nat.two_pow_pos _
      have hd : 1 ≤ 2 ^ d := Nat.two_pow_pos _
      generalize 2 ^ (r / 8388608 - 1) = P at hp ⊢
      generalize 2 ^ d = D at hd ⊢
      have a : (8388608 + r % 8388608) * P < 16777216 * P := Nat.mul_lt_mul_of_pos_right (by omega) hp
      have b : 16777216 * P ≤ (8388608 + r' % 8388608) * (P * 2 ^ 1 * D) := by
        have e1 : 16777216 * P = 8388608 * (P * 2 ^ 1 * 1) := by omega
        rw [e1]
        exact Nat.mul_le_mul (by omega) (Nat.mul_le_mul_left _ hd)
      exact Nat.lt_of_lt_of_le a b
    · have e : r' / 8388608 = r / 8388608 := by omega
      rw [e]
      exact Nat.mul_lt_mul_of_pos_right (by omega) (Nat.two_pow_pos _)
theorem magV_le {r r' : Nat} (h : r ≤ r') : magV r ≤ magV r' := by
  rcases Nat.lt_or_ge r r' with h1 | h1
  · exact Nat.le_of_lt (magV_lt h1)
  · have : r = r' := by omega
    rw [this]; exact Nat.le_refl _
theorem magV_zero : magV 0 = 0 := rfl
theorem magV_lt_iff {r r' : Nat} : magV r < magV r' ↔ r < r' :=
  ⟨fun h => by rcases Nat.lt_or_ge r r' with h1 | h1; exact h1; exact absurd h (Nat.not_lt.2 (magV_le h1)), magV_lt⟩
theorem magV_eq_iff {r r' : Nat} : magV r = magV r' ↔ r = r' := by
  constructor
  · intro h
    rcases Nat.lt_trichotomy r r' with h1 | h1 | h1
    · have := magV_lt h1; omega
    · exact h1
    · have := magV_lt h1; omega
  · intro h; rw [h]
theorem val_lt_iff (x y : Nat) : valV x < valV y ↔ key x < key y := by
  unfold valV key
  have a := @magV_lt_iff (rung x) (rung y)
  have b := @magV_lt_iff (rung y) (rung x)
  have c := @magV_lt_iff 0 (rung y)
  have d := @magV_lt_iff 0 (rung x)
  rw [magV_zero] at c d
  cases negB x <;> cases negB y <;> simp only [Bool.false_eq_true, if_false, if_true] <;> omega
theorem val_eq_iff (x y : Nat) : valV x = valV y ↔ key x = key y := by
  have a := val_lt_iff x y
  have b := val_lt_iff y x
  omega

theorem read_val {x : Nat} (h : finB x = true) : ∃ m p, single.read x = .number (negB x) m p ∧ -149 ≤ p ∧ m <<< (p + 149).toNat = magV (rung x) := by
  simp only [finB, decide_eq_true_eq] at h
  unfold Format.read
  rw [c_sw, c_bin, c_inf]
  have hl : single.leastPlace = -149 := by decide
  unfold magV rung negB
  by_cases h1 : x % 2147483648 < 8388608
  · refine ⟨x % 2147483648, single.leastPlace, by simp [h1], by decide, ?_⟩
    rw [if_pos h1, hl]; simp
  · refine ⟨8388608 + x % 2147483648 % 8388608, single.leastPlace + (x % 2147483648 / 8388608 - 1 : Nat), by simp [h1, h], by omega, ?_⟩
    rw [if_neg h1, Nat.shiftLeft_eq, hl]
    congr 2
    omega

theorem compare_of {a b c d : Int} (h1 : a < b ↔ c < d) (h2 : a = b ↔ c = d) : compare a b = compare c d := by
  unfold compare instOrdInt
  simp only [compareOfLessAndEq, h1, h2]
theorem signed_scale (s : Bool) (m k c : Nat) : signed s m k * (2 ^ c : Nat) = signed s m (k + c) := by
  unfold signed
  have : (m <<< k) * 2 ^ c = m <<< (k + c) := by rw [Nat.shiftLeft_eq, Nat.shiftLeft_eq, Nat.pow_add, Nat.mul_assoc]
  cases s
  · simp only [Bool.false_eq_true, if_false]; rw [← Int.natCast_mul, this]
  · simp only [if_true]; rw [Int.neg_mul, ← Int.natCast_mul, this]
theorem signed_val {x m : Nat} {p : Int} (h : m <<< (p + 149).toNat = magV (rung x)) : signed (negB x) m (p + 149).toNat = valV x := by
  unfold signed valV; rw [h]

theorem ord_fin {x y : Nat} (hx : finB x = true) (hy : finB y = true) : ordB x y = some (compare (key x) (key y)) := by
  obtain ⟨m, i, ex, hi, vx⟩ := read_val hx
  obtain ⟨n, j, ey, hj, vy⟩ := read_val hy
  unfold ordB Format.order
  rw [ex, ey]
  simp only [Datum.order]
  congr 1
  have hp : (0 : Int) < ((2 ^ (min i j + 149).toNat : Nat) : Int) := by have := Nat.two_pow_pos (min i j + 149).toNat; omega
  have sx := signed_scale (negB x) m (i - min i j).toNat (min i j + 149).toNat
  have sy := signed_scale (negB y) n (j - min i j).toNat (min i j + 149).toNat
  rw [show (i - min i j).toNat + (min i j + 149).toNat = (i + 149).toNat by omega, signed_val vx] at sx
  rw [show (j - min i j).toNat + (min i j + 149).toNat = (j + 149).toNat by omega, signed_val vy] at sy
  generalize signed (negB x) m (i - min i j).toNat = a at *
  generalize signed (negB y) n (j - min i j).toNat = b at *
  generalize ((2 ^ (min i j + 149).toNat : Nat) : Int) = K at *
  refine compare_of ?_ ?_
  · rw [← val_lt_iff, ← sx, ← sy]
    exact ⟨fun h => Int.mul_lt_mul_of_pos_right h hp, fun h => Int.lt_of_mul_lt_mul_right h (by omega)⟩
  · rw [← val_eq_iff, ← sx, ← sy]
    exact ⟨fun h => by rw [h], fun h => Int.eq_of_mul_eq_mul_right (by omega) h⟩

theorem ltB_fin {x y : Nat} (hx : finB x = true) (hy : finB y = true) : ltB x y = decide (key x < key y) := by
  unfold ltB; rw [ord_fin hx hy]
  unfold compare instOrdInt
  simp only [compareOfLessAndEq]
  by_cases h : key x < key y
  · simp [h]
  · by_cases h2 : key x = key y <;> simp [h, h2]
theorem gtB_fin {x y : Nat} (hx : finB x = true) (hy : finB y = true) : gtB x y = decide (key y < key x) := by
  unfold gtB; rw [ord_fin hx hy]
  unfold compare instOrdInt
  simp only [compareOfLessAndEq]
  by_cases h : key x < key y
  · simp [h]; omega
  · by_cases h2 : key x = key y
    · simp [h2]
    · simp [h, h2]; omega
theorem eqB_fin {x y : Nat} (hx : finB x = true) (hy : finB y = true) : eqB x y = decide (key x = key y) := by
  unfold eqB; rw [ord_fin hx hy]
  unfold compare instOrdInt
  simp only [compareOfLessAndEq]
  by_cases h : key x < key y
  · simp [h]; omega
  · by_cases h2 : key x = key y <;> simp [h, h2]
theorem key_nn {x : Nat} (h : x < 2147483648) : key x = x := by
  have h0 : x / 2147483648 = 0 := Nat.div_eq_of_lt h
  have h1 : x % 2147483648 = x := Nat.mod_eq_of_lt h
  unfold key negB rung
  rw [h0, h1]
  simp

/-! ### differences -/
theorem word_false (r : Nat) : single.word false r = r := rfl
theorem nearest_nn (m : Nat) (p : Int) : single.nearest false m p ≤ 2139095040 := by
  unfold Format.nearest
  split
  · rw [word_false]; omega
  · simp only []
    rw [word_false]
    exact Nat.le_trans (Nat.min_le_right _ _) (by decide)
theorem cleanB_nn {r : Nat} (h : r ≤ 2139095040) : cleanB r < 2139095040 := by
  unfold cleanB finB
  split
  · rename_i h1
    simp only [Bool.and_eq_true, decide_eq_true_eq] at h1
    omega
  · omega
/-- a difference that is not below nought is, made clean, a finite word without a sign -/
theorem subB_nn {x y : Nat} (hx : finB x = true) (hy : finB y = true) (h : key y ≤ key x) : subB x y < 2139095040 := by
  obtain ⟨m, i, ex, hi, vx⟩ := read_val hx
  obtain ⟨n, j, ey, hj, vy⟩ := read_val hy
  have e : subB x y = match single.sub x y with | some r => cleanB r | none => 0 := rfl
  rw [e]
  clear e
  unfold Format.sub
  rw [ex, ey]
  simp only [Datum.opposite, Datum.sum, Option.map_some, Format.write]
  have hp : (0 : Int) < ((2 ^ (min i j + 149).toNat : Nat) : Int) := by have := Nat.two_pow_pos (min i j + 149).toNat; omega
  have sx := signed_scale (negB x) m (i - min i j).toNat (min i j + 149).toNat
  have sy := signed_scale (negB y) n (j - min i j).toNat (min i j + 149).toNat
  rw [show (i - min i j).toNat + (min i j + 149).toNat = (i + 149).toNat by omega, signed_val vx] at sx
  rw [show (j - min i j).toNat + (min i j + 149).toNat = (j + 149).toNat by omega, signed_val vy] at sy
  have hneg : signed (!negB y) n (j - min i j).toNat = -signed (negB y) n (j - min i j).toNat := by
    unfold signed; cases negB y <;> simp
  rw [hneg]
  generalize signed (negB x) m (i - min i j).toNat = a at *
  generalize signed (negB y) n (j - min i j).toNat = b at *
  generalize ((2 ^ (min i j + 149).toNat : Nat) : Int) = K at *
  have hle : valV y ≤ valV x := by
    have := val_lt_iff x y
    omega
  have hab : b ≤ a := by
    rw [← sx, ← sy] at hle
    exact Int.le_of_mul_le_mul_right hle hp
  have hs : (if a + -b = 0 then (negB x && !negB y) else decide (a + -b < 0)) = true → a + -b = 0 := by
    intro h1
    by_cases h0 : a + -b = 0
    · exact h0
    · rw [if_neg h0] at h1
      have := of_decide_eq_true h1
      omega
  cases hb : (if a + -b = 0 then (negB x && !negB y) else decide (a + -b < 0))
  · exact cleanB_nn (nearest_nn _ _)
  · rw [hs hb]
    simp only [Int.natAbs_zero, Format.nearest, if_true]
    decide
end Go.Proofs.Ytoafldgngbaddaa

/- A part of a colour times sixteen, as a whole number. -/
namespace Go.Proofs.Ytoafldgngbaddaa
open Ieee

theorem leB_fin {x y : Nat} (hx : finB x = true) (hy : finB y = true) : leB x y = decide (key x ≤ key y) := by
  unfold leB
  rw [ord_fin hx hy, Bool.eq_iff_iff]
  have := compare_of (a := key x) (b := key y) (c := key x) (d := key y) Iff.rfl Iff.rfl
  cases h : compare (key x) (key y)
  · have := Int.compare_eq_lt.1 h
    simp; omega
  · have := Int.compare_eq_eq.1 h
    simp; omega
  · have := Int.compare_eq_gt.1 h
    simp; omega
theorem part_rung {x : Nat} (h : partB x = true) : rung x ≤ 1065353216 ∧ (negB x = true → rung x = 0) := by
  have hf := part_fin h
  have f1 : finB 1065353216 = true := by decide
  have f0 : finB 0 = true := by decide
  unfold partB at h
  rw [Bool.and_eq_true] at h
  obtain ⟨h0, h1⟩ := h
  rw [leB_fin hf f1, decide_eq_true_eq] at h1
  have e0 : leB 0 x = true := by
    unfold geB at h0
    unfold leB
    rw [ord_fin hf f0] at h0
    rw [ord_fin f0 hf]
    cases h : compare (key x) (key 0)
    · rw [h] at h0; simp at h0
    · have := Int.compare_eq_eq.1 h
      rw [this]; simp
    · have := Int.compare_eq_gt.1 h
      have : compare (key 0) (key x) = .lt := Int.compare_eq_lt.2 this
      rw [this]; simp
  rw [leB_fin f0 hf, decide_eq_true_eq] at e0
  rw [key_nn (show (1065353216 : Nat) < 2147483648 by omega)] at h1
  rw [key_nn (show (0 : Nat) < 2147483648 by omega)] at e0
  unfold key at h1 e0
  cases hn : negB x
  · rw [hn] at h1 e0
    simp only [Bool.false_eq_true, if_false] at h1 e0
    exact ⟨by omega, fun h => by cases h⟩
  · rw [hn] at h1 e0
    simp only [if_true] at h1 e0
    exact ⟨by omega, fun _ => by omega⟩

theorem log2_bd {n k : Nat} (h1 : 2 ^ k ≤ n) (h2 : n < 2 ^ (k + 1)) : n.log2 = k := by
  have h0 : n ≠ 0 := by have := Nat.two_pow_pos k; omega
  have a := (Nat.le_log2 h0).2 h1
  have b := (Nat.log2_lt h0).2 h2
  omega

theorem toInt_small {y : Nat} (h : y ≤ 1098907648) : ∃ k : Nat, k ≤ 16 ∧ floatToIntVal .f32 y .i64 = some (k : Int) := by
  have fin : ∀ k : Nat, k ≤ 16 → (single.read y).toInt .zero = some (k : Int) → ∃ k : Nat, k ≤ 16 ∧ floatToIntVal .f32 y .i64 = some (k : Int) := by
    intro k hk e
    refine ⟨k, hk, ?_⟩
    have e' : (FloatKind.f32.decode y).toInt .zero = some (k : Int) := e
    unfold floatToIntVal
    rw [e']
    have b1 : IntKind.i64.min = -9223372036854775808 := by decide
    have b2 : IntKind.i64.max = 9223372036854775807 := by decide
    simp only
    rw [if_pos ⟨by omega, by omega⟩]
  have hl : single.leastPlace = -149 := by decide
  have hm : y % 2147483648 = y := Nat.mod_eq_of_lt (by omega)
  have hs : (y / 2147483648 % 2 == 1) = false := by
    have : y / 2147483648 = 0 := Nat.div_eq_of_lt (by omega)
    rw [this]; rfl
  by_cases h1 : y < 8388608
  · have e : single.read y = .number false y (-149) := by
      unfold Format.read
      rw [c_sw, c_bin, c_inf, hm, hs, hl]
      simp only [if_pos h1]
    refine fin 0 (by omega) ?_
    rw [e]
    unfold Datum.toInt Datum.integral Toward.cut
    simp only [Bool.toNat_false, Nat.add_zero]
    have hz : y / 1 <<< min 149 (y.log2 + 2) = 0 := by
      refine Nat.div_eq_of_lt ?_
      rw [Nat.one_shiftLeft]
      by_cases hy : y = 0
      · subst hy; exact Nat.two_pow_pos _
      · have h2 : y < 2 ^ (y.log2 + 1) := Nat.lt_log2_self
        refine Nat.lt_of_lt_of_le h2 (Nat.pow_le_pow_right (by omega) ?_)
        have h3 : y.log2 < 23 := (Nat.log2_lt hy).2 (by omega)
        omega
    have hz' : (y <<< (Int.toNat (-149))) / 1 <<< min (Int.toNat (- -149)) ((y <<< (Int.toNat (-149))).log2 + 2) = 0 := by
      simpa using hz
    rw [hz']
    rfl
  · have e : single.read y = .number false (8388608 + y % 8388608) (-149 + (y / 8388608 - 1 : Nat)) := by
      unfold Format.read
      rw [c_sw, c_bin, c_inf, hm, hs, hl]
      simp only [if_neg h1]
      rw [if_pos (by omega)]
    obtain ⟨m, hmd⟩ : ∃ m, m = 8388608 + y % 8388608 := ⟨_, rfl⟩
    obtain ⟨d, hd⟩ : ∃ d, d = 150 - y / 8388608 := ⟨_, rfl⟩
    have hq : y / 8388608 ≤ 131 := by omega
    have hq1 : 1 ≤ y / 8388608 := by omega
    have hp : (-149 : Int) + (y / 8388608 - 1 : Nat) = -(d : Int) := by omega
    have hlog : m.log2 = 23 := log2_bd (by omega) (by omega)
    have hk : m / 1 <<< min d 25 ≤ 16 := by
      rw [Nat.one_shiftLeft]
      by_cases h131 : y / 8388608 = 131
      · have hm0 : m = 8388608 := by omega
        have hd0 : d = 19 := by omega
        rw [hm0, hd0]; decide
      · have hd1 : 20 ≤ min d 25 := by omega
        have h2 : 2 ^ 20 ≤ 2 ^ min d 25 := Nat.pow_le_pow_right (by omega) hd1
        have h3 : m / 2 ^ min d 25 ≤ m / 2 ^ 20 := Nat.div_le_div_left h2 (by decide)
        have h4 : m / 2 ^ 20 ≤ 15 := by omega
        omega
    refine fin (m / 1 <<< min d 25) hk ?_
    rw [e, ← hmd, hp]
    unfold Datum.toInt Datum.integral Toward.cut
    have h0 : (-(d : Int)).toNat = 0 := by omega
    have h5 : (- -(d : Int)).toNat = d := by omega
    simp only [h0, h5, Nat.shiftLeft_zero, hlog, Bool.toNat_false, Nat.add_zero, signed]
    rfl

theorem cut_bd {M L drop : Nat} (hlo : 19 ≤ L + 2) (hd : 19 ≤ drop) (hM : M < 2 ^ 46) (hL : M.log2 = L) : Toward.even.cut false M drop ≤ 134217729 := by
  unfold Toward.cut
  rw [hL]
  simp only []
  have hg : 2 ^ 19 ≤ 1 <<< min drop (L + 2) := by
    rw [Nat.one_shiftLeft]
    exact Nat.pow_le_pow_right (by omega) (by omega)
  generalize 1 <<< min drop (L + 2) = gap at hg ⊢
  have h3 : M / gap ≤ M / 2 ^ 19 := Nat.div_le_div_left hg (by decide)
  have h4 : M / 2 ^ 19 ≤ 134217728 := by omega
  have h5 : ∀ b : Bool, b.toNat ≤ 1 := by decide
  exact Nat.le_trans (Nat.add_le_add (Nat.le_trans h3 h4) (h5 _)) (by decide)
/-- a small number's nearest word -/
theorem near_sub {r : Nat} (hr : r ≠ 0) (h1 : r < 8388608) : single.nearest false (r * 8388608) (-168) ≤ 1098907648 := by
  have hl : single.leastPlace = -149 := by decide
  have hfb : single.fractionBits = 23 := rfl
  have hM : r * 8388608 ≠ 0 := by omega
  have hMb : r * 8388608 < 2 ^ 46 := by omega
  have hlo : 23 ≤ (r * 8388608).log2 := (Nat.le_log2 hM).2 (by omega)
  have hhi : (r * 8388608).log2 < 46 := (Nat.log2_lt hM).2 hMb
  obtain ⟨M, hMe⟩ : ∃ M, M = r * 8388608 := ⟨_, rfl⟩
  rw [← hMe] at hM hMb hlo hhi ⊢
  clear hMe
  unfold Format.nearest
  rw [if_neg hM, hl, hfb, c_bin, c_inf]
  simp only []
  generalize hLg : M.log2 = L at hlo hhi ⊢
  obtain ⟨last, hlast⟩ : ∃ last : Int, last = max (-168 + (L : Int) - (23 : Nat)) (-149) := ⟨_, rfl⟩
  rw [← hlast]
  have b1 : -149 ≤ last := by omega
  have b2 : last ≤ -146 := by omega
  have z : (-168 - last).toNat = 0 := by omega
  rw [z, Nat.shiftLeft_zero]
  have hkept := cut_bd (M := M) (L := L) (drop := (last - -168).toNat) (by omega) (by omega) hMb hLg
  rw [word_false]
  have hu : (last - -149).toNat ≤ 3 := by omega
  refine Nat.le_trans (Nat.min_le_left _ _) ?_
  generalize (last - -149).toNat = u at hu
  generalize Toward.even.cut false M (last - -168).toNat = kept at hkept
  clear hlast
  omega
/-- a normal number times a power of two -/
theorem near_norm {m d : Nat} (h1 : 8388608 ≤ m) (h2 : m < 16777216) (hd : (d + 4) * 8388608 + m ≤ 1098907648) : single.nearest false (m * 8388608) (-149 + (d : Int) + -19) ≤ 1098907648 := by
  have hl : single.leastPlace = -149 := by decide
  have hfb : single.fractionBits = 23 := rfl
  have hM : m * 8388608 ≠ 0 := by omega
  have hlog : (m * 8388608).log2 = 46 := log2_bd (by omega) (by omega)
  have r0 : m * 8388608 % 8388608 = 0 := by omega
  have d0 : m * 8388608 / 8388608 = m := by omega
  obtain ⟨M, hMe⟩ : ∃ M, M = m * 8388608 := ⟨_, rfl⟩
  rw [← hMe] at hM hlog r0 d0 ⊢
  clear hMe
  unfold Format.nearest
  rw [if_neg hM, hl, hfb, c_bin, c_inf, hlog]
  simp only []
  obtain ⟨last, hlast⟩ : ∃ last : Int, last = max (-149 + (d : Int) + -19 + ((46 : Nat) : Int) - (23 : Nat)) (-149) := ⟨_, rfl⟩
  rw [← hlast]
  have b1 : last = (d : Int) - 145 := by omega
  have z : (-149 + (d : Int) + -19 - last).toNat = 0 := by omega
  have z2 : (last - (-149 + (d : Int) + -19)).toNat = 23 := by omega
  have z3 : (last - -149).toNat = d + 4 := by omega
  rw [z, z2, z3, Nat.shiftLeft_zero]
  have hkept : Toward.even.cut false M 23 = m := by
    unfold Toward.cut
    rw [hlog]
    have hg : 1 <<< min 23 (46 + 2) = 8388608 := by decide
    simp only [hg]
    rw [r0, d0]
    simp
  rw [hkept, word_false]
  refine Nat.le_trans (Nat.min_le_left _ _) ?_
  exact hd
/-- times sixteen, of a word that is not below nought -/
theorem times16 {r : Nat} (h : r ≤ 1065353216) (x : Nat) (hx : x % 2147483648 = r) (hs : negB x = false) : ∃ y, floatBits .mul .f32 x 1098907648 = some y ∧ y ≤ 1098907648 := by
  have hl : single.leastPlace = -149 := by decide
  have e16 : single.read 1098907648 = .number false 8388608 (-19) := by decide
  have eb : floatBits .mul .f32 x 1098907648 = single.mul x 1098907648 := rfl
  have hsx : (x / 2147483648 % 2 == 1) = false := hs
  rw [eb]
  unfold Format.mul
  by_cases h1 : r < 8388608
  · have e : single.read x = .number false r (-149) := by
      unfold Format.read
      rw [c_sw, c_bin, c_inf, hx, hsx, hl]
      simp only [if_pos h1]
    rw [e, e16]
    simp only [Datum.product, Option.map_some, Format.write, Bool.xor_false]
    refine ⟨_, rfl, ?_⟩
    by_cases hr : r = 0
    · subst hr; decide
    · exact near_sub hr h1
  · have e : single.read x = .number false (8388608 + r % 8388608) (-149 + (r / 8388608 - 1 : Nat)) := by
      unfold Format.read
      rw [c_sw, c_bin, c_inf, hx, hsx, hl]
      simp only [if_neg h1]
      rw [if_pos (by omega)]
    have b1 : r % 8388608 < 8388608 := Nat.mod_lt _ (by decide)
    have b2 := Nat.div_add_mod r 8388608
    obtain ⟨m, hmd⟩ : ∃ m, m = 8388608 + r % 8388608 := ⟨_, rfl⟩
    obtain ⟨d, hd⟩ : ∃ d, d = r / 8388608 - 1 := ⟨_, rfl⟩
    have b3 : 1 ≤ r / 8388608 := by omega
    have b4 : (d + 4) * 8388608 + m ≤ 1098907648 := by omega
    rw [← hmd, ← hd] at e
    rw [e, e16]
    simp only [Datum.product, Option.map_some, Format.write, Bool.xor_false]
    exact ⟨_, rfl, near_norm (by omega) (by omega) b4⟩

/-- what 'int(x * 16)' gives for a part of a colour -/
def stepB (x : Nat) : Nat := match floatBits .mul .f32 x 1098907648 with
  | some y => match floatToIntVal .f32 y .i64 with
    | some k => k.toNat
    | none => 0
  | none => 0
theorem part_step {x : Nat} (h : partB x = true) : ∃ y, floatBits .mul .f32 x 1098907648 = some y ∧ mulB x 1098907648 = cleanB y ∧ floatToIntVal .f32 y .i64 = some (stepB x : Int) ∧ floatToIntVal .f32 (cleanB y) .i64 = some (stepB x : Int) ∧ stepB x ≤ 16 := by
  obtain ⟨h1, h2⟩ := part_rung h
  have fin : ∀ y, floatBits .mul .f32 x 1098907648 = some y → (∃ k : Nat, k ≤ 16 ∧ floatToIntVal .f32 y .i64 = some (k : Int) ∧ floatToIntVal .f32 (cleanB y) .i64 = some (k : Int)) → ∃ y, floatBits .mul .f32 x 1098907648 = some y ∧ mulB x 1098907648 = cleanB y ∧ floatToIntVal .f32 y .i64 = some (stepB x : Int) ∧ floatToIntVal .f32 (cleanB y) .i64 = some (stepB x : Int) ∧ stepB x ≤ 16 := by
    rintro y hy ⟨k, hk, e1, e2⟩
    have e : stepB x = k := by unfold stepB; rw [hy]; simp only [e1]; omega
    refine ⟨y, hy, by unfold mulB arB; rw [hy], ?_⟩
    rw [e]
    exact ⟨e1, e2, hk⟩
  cases hn : negB x
  · obtain ⟨y, hy, hb⟩ := times16 h1 x rfl hn
    refine fin y hy ?_
    obtain ⟨k, hk, e⟩ := toInt_small hb
    refine ⟨k, hk, e, ?_⟩
    unfold cleanB
    cases hz : (finB y && !zeroB y)
    · have h0 : y = 0 := by
        rw [Bool.and_eq_false_iff] at hz
        rcases hz with h | h
        · unfold finB at h; simp at h; omega
        · unfold zeroB at h; simp at h; omega
      subst h0
      exact e
    · exact e
  · have h0 := h2 hn
    have e : single.read x = .number true 0 (-149) := by
      unfold rung at h0
      have hl : single.leastPlace = -149 := by decide
      have hsx : (x / 2147483648 % 2 == 1) = true := hn
      unfold Format.read
      rw [c_sw, c_bin, c_inf, h0, hsx, hl]
      simp
    refine fin 2147483648 ?_ ⟨0, by omega, by decide +kernel, by decide +kernel⟩
    show single.mul x 1098907648 = _
    have e16 : single.read 1098907648 = .number false 8388608 (-19) := by decide
    unfold Format.mul
    rw [e, e16]
    simp only [Datum.product, Option.map_some, Format.write, Nat.zero_mul]
    decide
end Go.Proofs.Ytoafldgngbaddaa

/- A float times a part: no greater; times one: the same. -/
namespace Go.Proofs.Ytoafldgngbaddaa
open Ieee

theorem cut_le {n d N : Nat} (h : n ≤ N * 2 ^ d) : Toward.even.cut false n d ≤ N := by
  unfold Toward.cut
  simp only []
  by_cases hd : d ≤ n.log2 + 2
  · rw [Nat.min_eq_left hd, Nat.one_shiftLeft]
    have hp := Nat.two_pow_pos d
    generalize 2 ^ d = G at h hp ⊢
    have hl : n / G ≤ N := Nat.div_le_of_le_mul (by rw [Nat.mul_comm]; exact h)
    by_cases e : n / G = N
    · have h1 := Nat.div_add_mod n G
      have h2 : n % G = 0 := by
        rw [e, Nat.mul_comm] at h1
        omega
      rw [h2, e]
      have c1 : decide (G < 2 * 0) = false := by simp
      have c2 : (G == 2 * 0) = false := by simp; omega
      rw [c1, c2]
      simp
    · have h5 : ∀ b : Bool, b.toNat ≤ 1 := by decide
      exact Nat.le_trans (Nat.add_le_add (Nat.le_refl _) (h5 _)) (by omega)
  · rw [Nat.min_eq_right (by omega), Nat.one_shiftLeft]
    have h4 : n < 2 ^ (n.log2 + 1) := Nat.lt_log2_self
    have h5 : 2 ^ (n.log2 + 2) = 2 * 2 ^ (n.log2 + 1) := by rw [Nat.pow_succ, Nat.mul_comm]
    rw [h5]
    generalize 2 ^ (n.log2 + 1) = G at h4 ⊢
    have h6 : n / (2 * G) = 0 := Nat.div_eq_of_lt (by omega)
    have h7 : n % (2 * G) = n := Nat.mod_eq_of_lt (by omega)
    rw [h6, h7]
    have c1 : decide (2 * G < 2 * n) = false := by simp; omega
    have c2 : (2 * G == 2 * n) = false := by simp; omega
    rw [c1, c2]
    simp
/-- the number of a rung: its digits and their place -/
theorem read_rung {x : Nat} (h : finB x = true) : ∃ (m : Nat) (u : Nat), single.read x = .number (negB x) m ((u : Int) - 149) ∧ m < 16777216 ∧ (u = 0 ∨ 8388608 ≤ m) ∧ u * 8388608 + m = rung x := by
  simp only [finB, decide_eq_true_eq] at h
  have hl : single.leastPlace = -149 := by decide
  unfold Format.read
  rw [c_sw, c_bin, c_inf, hl]
  unfold rung negB
  by_cases h1 : x % 2147483648 < 8388608
  · exact ⟨x % 2147483648, 0, by simp [h1], by omega, .inl rfl, by omega⟩
  · refine ⟨8388608 + x % 2147483648 % 8388608, x % 2147483648 / 8388608 - 1, ?_, by omega, .inr (by omega), by omega⟩
    simp only [if_neg h1]
    rw [if_pos h]
    congr 1
theorem near_zero (s : Bool) (p : Int) : single.nearest s 0 p = single.word s 0 := by unfold Format.nearest; simp
theorem near_word (s : Bool) (M : Nat) (p : Int) : single.nearest s M p = single.word s (single.nearest false M p) := by
  unfold Format.nearest
  by_cases h : M = 0
  · simp [h, Format.word]
  · simp only [if_neg h]
    have hc : ∀ (n d : Nat), Toward.even.cut s n d = Toward.even.cut false n d := fun _ _ => rfl
    rw [hc, word_false]
/-- no greater than a number that a word has: no greater word -/
theorem near_le {M m u : Nat} {j : Int} (hM : 0 < M) (hm : m < 16777216) (hu : u = 0 ∨ 8388608 ≤ m) (hj : j ≤ 0) (hMm : M ≤ m * 2 ^ (-j).toNat) : single.nearest false M ((u : Int) - 149 + j) ≤ u * 8388608 + m := by
  have hl : single.leastPlace = -149 := by decide
  have hfb : single.fractionBits = 23 := rfl
  have hL2 : 2 ^ M.log2 ≤ M := Nat.log2_self_le (by omega)
  have hlt : M < 2 ^ (M.log2 + 1) := Nat.lt_log2_self
  have hLb : M.log2 < 24 + (-j).toNat := by
    refine (Nat.log2_lt (by omega)).2 (Nat.lt_of_le_of_lt hMm ?_)
    rw [Nat.pow_add]
    exact Nat.mul_lt_mul_of_pos_right (by omega) (Nat.two_pow_pos _)
  unfold Format.nearest
  rw [if_neg (by omega), hl, hfb, c_bin, c_inf, word_false]
  try simp only []
  generalize M.log2 = L at hL2 hlt hLb ⊢
  obtain ⟨last, hlast⟩ : ∃ last : Int, last = max ((u : Int) - 149 + j + (L : Int) - (23 : Nat)) (-149) := ⟨_, rfl⟩
  rw [← hlast]
  have b1 : last ≤ (u : Int) - 149 := by omega
  have b2 : -149 ≤ last := by omega
  refine Nat.le_trans (Nat.min_le_left _ _) ?_
  by_cases he : last = (u : Int) - 149
  · have z1 : ((u : Int) - 149 + j - last).toNat = 0 := by omega
    have z2 : (last - ((u : Int) - 149 + j)).toNat = (-j).toNat := by omega
    have z3 : (last - -149).toNat = u := by omega
    rw [z1, z2, z3, Nat.shiftLeft_zero]
    have := cut_le hMm
    omega
  · have hk : Toward.even.cut false (M <<< ((u : Int) - 149 + j - last).toNat) (last - ((u : Int) - 149 + j)).toNat ≤ 16777216 := by
      refine cut_le ?_
      have h1 : M <<< ((u : Int) - 149 + j - last).toNat < 2 ^ (L + 1 + ((u : Int) - 149 + j - last).toNat) := by
        rw [Nat.shiftLeft_eq, Nat.pow_add]
        exact Nat.mul_lt_mul_of_pos_right hlt (Nat.two_pow_pos _)
      have h2 : 2 ^ (L + 1 + ((u : Int) - 149 + j - last).toNat) ≤ 2 ^ (24 + (last - ((u : Int) - 149 + j)).toNat) := Nat.pow_le_pow_right (by omega) (by omega)
      rw [Nat.pow_add 2 24] at h2
      exact Nat.le_of_lt (Nat.lt_of_lt_of_le h1 h2)
    have h3 : (last - -149).toNat + 1 ≤ u := by omega
    have h4 : 8388608 ≤ m := by rcases hu with h | h <;> omega
    generalize (last - -149).toNat = v at h3
    generalize Toward.even.cut false (M <<< ((u : Int) - 149 + j - last).toNat) (last - ((u : Int) - 149 + j)).toNat = kept at hk
    clear hlast hL2 hlt hMm
    omega

theorem near_mul_le {m n u : Nat} {j : Int} (hM : 0 < m * n) (hm : m < 16777216) (hu : u = 0 ∨ 8388608 ≤ m) (hj : j ≤ 0) (hn : n ≤ 2 ^ (-j).toNat) : single.nearest false (m * n) ((u : Int) - 149 + j) ≤ u * 8388608 + m :=
  near_le hM hm hu hj (Nat.mul_le_mul_left _ hn)
theorem clean_word {s : Bool} {r : Nat} (h : r < 2139095040) : cleanB (single.word s r) = if r = 0 then 0 else single.word s r := by
  have hm : single.word s r % 2147483648 = r := by
    unfold Format.word
    rw [c_sw]
    split <;> omega
  unfold cleanB finB zeroB
  rw [hm]
  by_cases h0 : r = 0
  · simp [h0]
  · simp [h0, h]
theorem word_rung {s : Bool} {r : Nat} (h : r < 2139095040) : rung (single.word s r) = r ∧ negB (single.word s r) = s := by
  unfold rung negB Format.word
  rw [c_sw]
  cases s
  · simp only [Bool.false_eq_true, if_false]
    have : r / 2147483648 = 0 := Nat.div_eq_of_lt (by omega)
    rw [this]
    exact ⟨by omega, rfl⟩
  · simp only [if_true]
    have : (2147483648 + r) / 2147483648 = 1 := by omega
    rw [this]
    exact ⟨by omega, rfl⟩
theorem fin_rung {x : Nat} (h : finB x = true) : rung x < 2139095040 := by
  simp only [finB, decide_eq_true_eq] at h
  exact h
/-- a float times a part is no greater, and of the same sign or nought -/
theorem mul_part {x k : Nat} (hx : finB x = true) (hk : partB k = true) : ∃ R, R ≤ rung x ∧ mulB x k = if R = 0 then 0 else single.word (negB x) R := by
  obtain ⟨m, u, ex, hm, hu, hr⟩ := read_rung hx
  have hf := fin_rung hx
  obtain ⟨k1, k2⟩ := part_rung hk
  obtain ⟨n, v, ek, hn, hv, hrk⟩ := read_rung (part_fin hk)
  have e : mulB x k = match single.mul x k with | some r => cleanB r | none => 0 := rfl
  rw [e]
  unfold Format.mul
  rw [ex, ek]
  simp only [Datum.product, Option.map_some, Format.write]
  by_cases hn0 : m * n = 0
  · refine ⟨0, Nat.zero_le _, ?_⟩
    rw [hn0, near_zero, clean_word (by omega)]
    simp
  · have hnpos : 0 < n := by
      rcases Nat.eq_zero_or_pos n with h | h
      · rw [h, Nat.mul_zero] at hn0; exact absurd rfl hn0
      · exact h
    have hs : negB k = false := by
      cases h : negB k
      · rfl
      · have := k2 h
        omega
    rw [hs, Bool.xor_false, near_word]
    have hj : (v : Int) - 149 ≤ 0 ∧ n ≤ 2 ^ (-((v : Int) - 149)).toNat := by
      have hv1 : v * 8388608 + n ≤ 1065353216 := by omega
      have hv126 : v ≤ 126 := by omega
      by_cases hv2 : v = 126
      · refine ⟨by omega, ?_⟩
        have : (-((v : Int) - 149)).toNat = 23 := by omega
        rw [this]
        omega
      · refine ⟨by omega, ?_⟩
        have h24 : 24 ≤ (-((v : Int) - 149)).toNat := by omega
        have := Nat.pow_le_pow_right (show 0 < 2 by omega) h24
        omega
    have hle := near_mul_le (m := m) (n := n) (u := u) (j := (v : Int) - 149) (by omega) hm hu hj.1 hj.2
    have ep : (u : Int) - 149 + ((v : Int) - 149) = (u : Int) - 149 + ((v : Int) - 149) := rfl
    refine ⟨single.nearest false (m * n) ((u : Int) - 149 + ((v : Int) - 149)), by omega, ?_⟩
    exact clean_word (by omega)
theorem mul_key {x k : Nat} (hx : finB x = true) (hk : partB k = true) : finB (mulB x k) = true ∧ (key (mulB x k)).natAbs ≤ (key x).natAbs := by
  obtain ⟨R, h1, h2⟩ := mul_part hx hk
  have hf := fin_rung hx
  have hkx : (key x).natAbs = rung x := by unfold key; cases negB x <;> simp
  rw [h2, hkx]
  by_cases h0 : R = 0
  · rw [if_pos h0]; exact ⟨by decide, by simp [key_nn]⟩
  · rw [if_neg h0]
    obtain ⟨w1, w2⟩ := word_rung (s := negB x) (r := R) (by omega)
    refine ⟨?_, ?_⟩
    · unfold rung at w1
      unfold finB
      rw [w1]
      simpa using by omega
    · unfold key
      rw [w1]
      cases negB (single.word (negB x) R) <;> simp <;> exact h1
end Go.Proofs.Ytoafldgngbaddaa

/- Exact results: minus nothing, nothing minus; signs. -/
namespace Go.Proofs.Ytoafldgngbaddaa
open Ieee

/-- a number that a word has is its own nearest -/
theorem near_exact {m u v : Nat} (h0 : 0 < m) (hm : m < 16777216) (hu : u = 0 ∨ 8388608 ≤ m) (hf : u * 8388608 + m < 2139095040) (hv : v ≤ u) : single.nearest false (m <<< (u - v)) ((v : Int) - 149) = u * 8388608 + m := by
  have hl : single.leastPlace = -149 := by decide
  have hfb : single.fractionBits = 23 := rfl
  rw [Nat.shiftLeft_eq]
  have hp := Nat.two_pow_pos (u - v)
  have hM : 0 < m * 2 ^ (u - v) := Nat.mul_pos h0 hp
  have hL1 : 2 ^ m.log2 ≤ m := Nat.log2_self_le (by omega)
  have hL2 : m < 2 ^ (m.log2 + 1) := Nat.lt_log2_self
  have hlog : (m * 2 ^ (u - v)).log2 = m.log2 + (u - v) := by
    refine log2_bd ?_ ?_
    · rw [Nat.pow_add]; exact Nat.mul_le_mul_right _ hL1
    · rw [show m.log2 + (u - v) + 1 = (m.log2 + 1) + (u - v) by omega, Nat.pow_add]; exact Nat.mul_lt_mul_of_pos_right hL2 hp
  have hmL : m.log2 < 24 := (Nat.log2_lt (by omega)).2 hm
  unfold Format.nearest
  rw [if_neg (by omega), hl, hfb, c_bin, c_inf, word_false, hlog]
  try simp only []
  have hlast : max ((v : Int) - 149 + ((m.log2 + (u - v) : Nat) : Int) - (23 : Nat)) (-149) = (u : Int) - 149 := by
    rcases hu with h | h
    · omega
    · have : 23 ≤ m.log2 := (Nat.le_log2 (by omega)).2 h
      omega
  rw [hlast]
  have z1 : ((v : Int) - 149 - ((u : Int) - 149)).toNat = 0 := by omega
  have z2 : ((u : Int) - 149 - ((v : Int) - 149)).toNat = u - v := by omega
  have z3 : ((u : Int) - 149 - -149).toNat = u := by omega
  rw [z1, z2, z3, Nat.shiftLeft_zero]
  have hk : Toward.even.cut false (m * 2 ^ (u - v)) (u - v) = m := by
    unfold Toward.cut
    rw [hlog, Nat.min_eq_left (by omega), Nat.one_shiftLeft]
    try simp only []
    have r0 : m * 2 ^ (u - v) % 2 ^ (u - v) = 0 := Nat.mul_mod_left _ _
    have d0 : m * 2 ^ (u - v) / 2 ^ (u - v) = m := Nat.mul_div_cancel _ hp
    rw [r0, d0]
    have c1 : decide (2 ^ (u - v) < 2 * 0) = false := by simp
    have c2 : (2 ^ (u - v) == 2 * 0) = false := by simp
    rw [c1, c2]
    simp
  rw [hk]
  exact Nat.min_eq_left (Nat.le_of_lt hf)
/-- of this sign and rung, nought without a sign -/
def mk (s : Bool) (r : Nat) : Nat := if r = 0 then 0 else single.word s r
theorem mk_key {s : Bool} {r : Nat} (h : r < 2139095040) : key (mk s r) = (if s then -(r : Int) else (r : Int)) ∧ finB (mk s r) = true := by
  unfold mk
  by_cases h0 : r = 0
  · subst h0
    rw [if_pos rfl]
    cases s <;> exact ⟨by decide, by decide⟩
  · rw [if_neg h0]
    obtain ⟨w1, w2⟩ := word_rung (s := s) h
    refine ⟨by unfold key; rw [w1, w2], ?_⟩
    unfold rung at w1
    unfold finB
    rw [w1]
    simpa using h
theorem neg_sub {y : Nat} (hy : finB y = true) : subB 0 y = mk (!negB y) (rung y) := by
  obtain ⟨m, u, ey, hm, hu, hr⟩ := read_rung hy
  have hf := fin_rung hy
  have e : subB 0 y = match single.sub 0 y with | some r => cleanB r | none => 0 := rfl
  rw [e]
  unfold Format.sub
  rw [read_zero, ey]
  simp only [Datum.opposite, Datum.sum, Option.map_some, Format.write]
  have hmin : min (-149 : Int) ((u : Int) - 149) = -149 := by omega
  rw [hmin]
  have t1 : ((u : Int) - 149 - -149).toNat = u := by omega
  rw [signed_zero, t1, Int.zero_add]
  by_cases h0 : m = 0
  · have hu0 : u = 0 := by rcases hu with h | h <;> omega
    have hr0 : rung y = 0 := by omega
    subst h0 hu0
    have hs : signed (!negB y) 0 0 = 0 := by unfold signed; simp
    rw [hs, hr0]
    simp only [Int.natAbs_zero, near_zero, if_true]
    rw [clean_word (by omega)]
    simp [mk]
  · have hpos : 0 < m <<< u := by rw [Nat.shiftLeft_eq]; exact Nat.mul_pos (by omega) (Nat.two_pow_pos _)
    obtain ⟨M, hM⟩ : ∃ M, M = m <<< u := ⟨_, rfl⟩
    have hsv : ∀ s : Bool, signed s m u = if s then -(M : Int) else (M : Int) := fun s => by unfold signed; rw [← hM]
    rw [← hM] at hpos
    have hab : (signed (!negB y) m u).natAbs = m <<< u := by rw [hsv, ← hM]; cases negB y <;> simp
    have hne : signed (!negB y) m u ≠ 0 := by rw [hsv]; cases negB y <;> simp <;> omega
    have hsg : decide (signed (!negB y) m u < 0) = !negB y := by
      rw [hsv]
      cases negB y
      · simp; omega
      · simp
    rw [if_neg hne, hsg, hab, near_word]
    have hx := near_exact (m := m) (u := u) (v := 0) (by omega) hm hu (by omega) (Nat.zero_le _)
    rw [Nat.sub_zero] at hx
    have e149 : ((0 : Nat) : Int) - 149 = -149 := by omega
    rw [e149] at hx
    rw [hx, hr, clean_word hf]
    rfl

/-- nothing minus y: minus y -/
theorem neg_key {y : Nat} (hy : finB y = true) : key (subB 0 y) = -key y ∧ finB (subB 0 y) = true := by
  rw [neg_sub hy]
  obtain ⟨h1, h2⟩ := mk_key (s := !negB y) (fin_rung hy)
  refine ⟨?_, h2⟩
  rw [h1]
  unfold key
  cases negB y <;> simp
theorem clean_key {y : Nat} (hy : finB y = true) : key (cleanB y) = key y ∧ finB (cleanB y) = true := by
  refine ⟨?_, cleanB_fin y⟩
  unfold cleanB
  rw [hy]
  cases hz : zeroB y
  · rfl
  · simp only [Bool.not_true, Bool.and_false, Bool.false_eq_true, if_false]
    have h0 : rung y = 0 := by unfold zeroB at hz; simpa [rung] using hz
    unfold key
    rw [h0]
    cases negB y <;> simp [negB, rung]
theorem reach_key {x : Nat} (hx : finB x = true) : reachB x = decide ((key x).natAbs ≤ 1166016512) := by
  have f1 : finB 1166016512 = true := by decide
  have f2 : finB 3313500160 = true := by decide
  have k1 : key 1166016512 = 1166016512 := by decide
  have k2 : key 3313500160 = -1166016512 := by decide
  have hge : geB x 3313500160 = decide (-1166016512 ≤ key x) := by
    have h := leB_fin f2 hx
    have e : geB x 3313500160 = leB 3313500160 x := by
      unfold geB leB
      rw [ord_fin hx f2, ord_fin f2 hx]
      rcases Int.lt_trichotomy (key x) (key 3313500160) with h | h | h
      · rw [Int.compare_eq_lt.2 h, Int.compare_eq_gt.2 h]; rfl
      · rw [Int.compare_eq_eq.2 h, Int.compare_eq_eq.2 h.symm]; rfl
      · rw [Int.compare_eq_gt.2 h, Int.compare_eq_lt.2 h]; rfl
    rw [e, h, k2]
  unfold reachB
  rw [hge, leB_fin hx f1, k1, Bool.eq_iff_iff]
  simp only [Bool.and_eq_true, decide_eq_true_eq]
  omega

theorem cleanB_word0' (s : Bool) : cleanB (single.word s 0) = 0 := by cases s <;> decide
/-- one minus a part is a part -/
theorem one_sub {x : Nat} (hx : partB x = true) : partB (subB 1065353216 x) = true := by
  have f1 : finB 1065353216 = true := by decide
  have hf := part_fin hx
  obtain ⟨m, i, ex, hi, vx⟩ := read_val f1
  obtain ⟨n, v, ey, hn, hv, hrx⟩ := read_rung hf
  have e1 : single.read 1065353216 = .number false 8388608 (-23) := by decide
  obtain ⟨r1, r2⟩ := part_rung hx
  have e : subB 1065353216 x = match single.sub 1065353216 x with | some r => cleanB r | none => 0 := rfl
  have key1 : ∀ R, R ≤ 1065353216 → partB (cleanB R) = true := by
    intro R hR
    have hc : cleanB R = R := by
      unfold cleanB finB zeroB
      have hm' : R % 2147483648 = R := Nat.mod_eq_of_lt (by omega)
      rw [hm']
      by_cases h0 : R = 0
      · simp [h0]
      · simp [h0]; omega
    rw [hc]
    have hfR : finB R = true := by unfold finB; simp only [decide_eq_true_eq]; omega
    have f0 : finB 0 = true := by decide
    have hge : geB R 0 = true := by
      have h := leB_fin f0 hfR
      have e' : geB R 0 = leB 0 R := by
        unfold geB leB
        rw [ord_fin hfR f0, ord_fin f0 hfR]
        rcases Int.lt_trichotomy (key R) (key 0) with h | h | h
        · rw [Int.compare_eq_lt.2 h, Int.compare_eq_gt.2 h]; rfl
        · rw [Int.compare_eq_eq.2 h, Int.compare_eq_eq.2 h.symm]; rfl
        · rw [Int.compare_eq_gt.2 h, Int.compare_eq_lt.2 h]; rfl
      rw [e', h, key_nn (show R < 2147483648 by omega), key_nn (show 0 < 2147483648 by omega)]
      simp
    unfold partB
    rw [hge, leB_fin hfR f1, key_nn (show R < 2147483648 by omega), key_nn (show 1065353216 < 2147483648 by omega)]
    simp; omega
  rw [e]
  unfold Format.sub
  rw [e1, ey]
  simp only [Datum.opposite, Datum.sum, Option.map_some, Format.write]
  by_cases hn0 : n = 0
  · subst hn0
    have hs : ∀ k, signed (!negB x) 0 k = 0 := fun k => by unfold signed; simp
    rw [hs, Int.add_zero]
    have hu0 : v = 0 := by rcases hv with h | h <;> omega
    subst hu0
    have : (-23 - min (-23 : Int) (((0 : Nat) : Int) - 149)).toNat = 126 := by omega
    rw [this]
    have hm2 : min (-23 : Int) (((0 : Nat) : Int) - 149) = ((0 : Nat) : Int) - 149 := by omega
    rw [hm2]
    have hsg : signed false 8388608 126 = ((8388608 <<< 126 : Nat) : Int) := rfl
    have hpos : ((8388608 <<< 126 : Nat) : Int) ≠ 0 := by decide
    rw [hsg, if_neg hpos]
    have hlt : decide (((8388608 <<< 126 : Nat) : Int) < 0) = false := by decide
    rw [hlt, Int.natAbs_natCast]
    have hx := near_exact (m := 8388608) (u := 126) (v := 0) (by omega) (by omega) (.inr (by omega)) (by omega) (by omega)
    rw [Nat.sub_zero] at hx
    rw [hx]
    exact key1 _ (by omega)
  · have hs : negB x = false := by
      cases h : negB x
      · rfl
      · have := r2 h; omega
    have hv126 : v ≤ 126 := by omega
    have hmin : min (-23 : Int) ((v : Int) - 149) = (v : Int) - 149 := by omega
    rw [hmin, hs]
    have t1 : (-23 - ((v : Int) - 149)).toNat = 126 - v := by omega
    have t2 : ((v : Int) - 149 - ((v : Int) - 149)).toNat = 0 := by omega
    rw [t1, t2]
    obtain ⟨M, hM⟩ : ∃ M, M = 8388608 <<< (126 - v) := ⟨_, rfl⟩
    have s1 : signed false 8388608 (126 - v) = (M : Int) := by unfold signed; rw [← hM]; rfl
    have s2 : signed (!false) n 0 = -(n : Int) := by unfold signed; simp
    rw [s1, s2]
    have hMn : n ≤ M := by
      rw [hM, Nat.shiftLeft_eq]
      by_cases h126 : v = 126
      · subst h126
        have : n ≤ 8388608 := by omega
        simpa using this
      · have : 2 ^ 1 ≤ 2 ^ (126 - v) := Nat.pow_le_pow_right (by omega) (by omega)
        have := Nat.mul_le_mul_left 8388608 this
        omega
    by_cases hz : (M : Int) + -(n : Int) = 0
    · rw [if_pos hz, hz, Int.natAbs_zero, near_zero, cleanB_word0']
      decide +kernel
    · rw [if_neg hz]
      have hlt : decide ((M : Int) + -(n : Int) < 0) = false := by simp; omega
      rw [hlt]
      have hab : ((M : Int) + -(n : Int)).natAbs = M - n := by omega
      rw [hab]
      have hle := near_le (M := M - n) (m := 8388608) (u := 126) (j := (v : Int) - 126) (by omega) (by omega) (.inr (by omega)) (by omega) (by
        have : (-((v : Int) - 126)).toNat = 126 - v := by omega
        rw [this, ← Nat.shiftLeft_eq, ← hM]
        omega)
      have hp : ((126 : Nat) : Int) - 149 + ((v : Int) - 126) = (v : Int) - 149 := by omega
      rw [hp] at hle
      exact key1 _ (by omega)
end Go.Proofs.Ytoafldgngbaddaa

/- Draws of numbers from wider ranges, of points and speeds. -/
namespace Go.Proofs.Ytoafldgngbaddaa
open Go.RowKit
attribute [local go_sem] run_store_float run_store_complex

theorem l1ByteC (g : Nat) (A : Option Addr) (m c : Nat) (bs : List Int) (w : World) (hc : CurB w g A m c bs) :
    Calls Try.prog 93 #[.pointer (some ⟨g, 0, none⟩)] w fun e w' => ∃ x : Int, 0 ≤ x ∧ x ≤ 255 ∧ e = .returned (.int .i64 x) ∧ CurB w' g A m c bs ∧ w.grownBy w' (some g) := by
  refine (l1Byte_any g A m c bs w hc.2.2.2.2 hc.1 hc.2.1 hc.2.2.2.1).mono ?_
  rintro e w' ⟨x, h0, h1, rfl, h3, h4⟩
  exact ⟨x, h0, h1, rfl, hc.gr h3 h4, h4⟩

set_option maxHeartbeats 1000000 in
theorem l1BelowW (g : Nat) (A : Option Addr) (m c : Nat) (bs : List Int) (n : Int) (w : World) (hn : 257 ≤ n) (hn2 : n ≤ 100000) (hc : CurB w g A m c bs) :
    Calls Try.prog 60 #[.pointer (some ⟨g, 0, none⟩), .int .i64 n] w fun e w' => ∃ x : Nat, (x : Int) < n ∧ e = .returned (.int .i64 x) ∧ CurB w' g A m c bs ∧ w.grownBy w' (some g) := by
  have hnz : ¬ n = 0 := by omega
  have hn0 : ¬ n ≤ 0 := by omega
  have hn1 : ¬ n ≤ 256 := by omega
  go_enter Try.func60, Try.ntmps60
  go_wp2_with fail
  refine (l1ByteC g A m c bs _ hc).mono ?_
  rintro e w1 ⟨x, x0, x1, rfl, hc1, hg1⟩
  go_wp2_with fail
  refine (l1ByteC g A m c bs _ hc1).mono ?_
  rintro e w2 ⟨y, y0, y1, rfl, hc2, hg2⟩
  go_wp2_with fail
  refine (l1ByteC g A m c bs _ hc2).mono ?_
  rintro e w3 ⟨z, z0, z1, rfl, hc3, hg3⟩
  have e1 : IntKind.i64.wrap (x * 65536) = x * 65536 := by rw [IntKind.wrap_i64]; omega
  have e2 : IntKind.i64.wrap (y * 256) = y * 256 := by rw [IntKind.wrap_i64]; omega
  have e3 : IntKind.i64.wrap (x * 65536 + y * 256) = x * 65536 + y * 256 := by rw [IntKind.wrap_i64]; omega
  have e4 : IntKind.i64.wrap (x * 65536 + y * 256 + z) = x * 65536 + y * 256 + z := by rw [IntKind.wrap_i64]; omega
  go_wp2
  go_ret
  have f0 := Int.emod_nonneg (x * 65536 + y * 256 + z) hnz
  have f1 := Int.emod_lt_of_pos (x * 65536 + y * 256 + z) (show 0 < n by omega)
  exact ⟨((x * 65536 + y * 256 + z) % n).toNat, by omega, by rw [Int.toNat_of_nonneg f0]; rfl, hc3, grown_trans (grown_trans hg1 hg2) hg3⟩

theorem l1SomeN (g : Nat) (A : Option Addr) (m c : Nat) (bs : List Int) (lo hi : Int) (w : World) (h0 : -1000 ≤ lo) (h1 : lo ≤ hi) (h2 : hi - lo ≤ 255) (h3 : hi ≤ 1000) (hc : CurB w g A m c bs) :
    Calls Try.prog 59 #[.pointer (some ⟨g, 0, none⟩), .int .i64 lo, .int .i64 hi] w fun e w' => ∃ x : Int, lo ≤ x ∧ x ≤ hi ∧ e = .returned (.int .i64 x) ∧ CurB w' g A m c bs ∧ w.grownBy w' (some g) := by
  go_enter Try.func59, Try.ntmps59
  go_wp2_with fail
  refine (l1BelowC g A m c bs (hi - lo + 1) _ (by omega) (by omega) hc).mono ?_
  rintro e w1 ⟨x, hx, rfl, hc1, hg1⟩
  go_wp2
  go_ret
  exact ⟨lo + (x : Int), by omega, by omega, rfl, hc1, hg1⟩
theorem l1SomeW (g : Nat) (A : Option Addr) (m c : Nat) (bs : List Int) (lo hi : Int) (w : World) (h0 : -1000 ≤ lo) (h1 : 256 ≤ hi - lo) (h3 : hi ≤ 1000) (hc : CurB w g A m c bs) :
    Calls Try.prog 59 #[.pointer (some ⟨g, 0, none⟩), .int .i64 lo, .int .i64 hi] w fun e w' => ∃ x : Int, lo ≤ x ∧ x ≤ hi ∧ e = .returned (.int .i64 x) ∧ CurB w' g A m c bs ∧ w.grownBy w' (some g) := by
  go_enter Try.func59, Try.ntmps59
  go_wp2_with fail
  refine (l1BelowW g A m c bs (hi - lo + 1) _ (by omega) (by omega) hc).mono ?_
  rintro e w1 ⟨x, hx, rfl, hc1, hg1⟩
  go_wp2
  go_ret
  exact ⟨lo + (x : Int), by omega, by omega, rfl, hc1, hg1⟩

def speedOk (p : Nat × Nat) : Prop := okW p.1 = true ∧ okW p.2 = true
set_option maxHeartbeats 1000000 in
theorem l5SpeedC (g : Nat) (A : Option Addr) (m c : Nat) (bs : List Int) (w : World) (hc : CurB w g A m c bs) :
    Calls Try.prog 66 #[.pointer (some ⟨g, 0, none⟩)] w fun e w' => ∃ p : Nat × Nat, speedOk p ∧ e = .returned (.complex .f32 p.1 p.2) ∧ CurB w' g A m c bs ∧ w.grownBy w' (some g) := by
  go_enter Try.func66, Try.ntmps66
  go_wp2_with fail
  refine (l1SomeN g A m c bs (-40) 40 _ (by omega) (by omega) (by omega) (by omega) hc).mono ?_
  rintro e w1 ⟨x, x0, x1, rfl, hc1, hg1⟩
  obtain ⟨q1, q2, _⟩ := quoOk_spec (at_shift quo8_all rfl (by omega) x0 x1)
  have Q2 := Lib.hid q2
  obtain ⟨r, hr⟩ : ∃ r, r = quoW x 1090519040 := ⟨_, rfl⟩
  rw [← hr] at q1 Q2
  have hq := fun wx => run_float_arith (P := Try.prog) wx .quo 22 .f32 (fl x) 1090519040 r q1
  unfold fl at hq
  clear q1 q2 hr
  go_wp2_with fail
  refine (l1SomeN g A m c bs (-40) 40 _ (by omega) (by omega) (by omega) (by omega) hc1).mono ?_
  rintro e w2 ⟨y, y0, y1, rfl, hc2, hg2⟩
  obtain ⟨q1, q2, _⟩ := quoOk_spec (at_shift quo10_all rfl (by omega) y0 y1)
  have Q3 := Lib.hid q2
  obtain ⟨s, hs⟩ : ∃ r, r = quoW y 1092616192 := ⟨_, rfl⟩
  rw [← hs] at q1 Q3
  have hq2 := fun wx => run_float_arith (P := Try.prog) wx .quo 22 .f32 (fl y) 1092616192 s q1
  unfold fl at hq2
  clear q1 q2 hs
  go_wp2
  go_ret
  exact ⟨(r, s), ⟨Q2.out, Q3.out⟩, rfl, hc2, grown_trans hg1 hg2⟩
def fineOk (x : Nat) : Prop := okW x = true ∧ okW (Go.Op.negFloat .f32 x) = true
set_option maxHeartbeats 2000000 in
theorem l1FineC (g : Nat) (A : Option Addr) (m c : Nat) (bs : List Int) (w : World) (hc : CurB w g A m c bs) :
    Calls Try.prog 65 #[.pointer (some ⟨g, 0, none⟩)] w fun e w' => ∃ x : Nat, fineOk x ∧ e = .returned (.float .f32 x) ∧ CurB w' g A m c bs ∧ w.grownBy w' (some g) := by
  go_enter Try.func65, Try.ntmps65
  go_wp2_with fail
  refine (l1SomeW g A m c bs (-640) 640 _ (by omega) (by omega) (by omega) hc).mono ?_
  rintro e w1 ⟨a, a0, a1, rfl, hc1, hg1⟩
  go_wp2_with fail
  obtain ⟨W, hWe⟩ : ∃ W, W = w1.alloc (Obj.cells #[.float .f32 1065353216, .float .f32 1073741824, .float .f32 1098907648, .float .f32 1115684864, .float .f32 1120403456, .float .f32 1077936128] 22) := ⟨_, rfl⟩
  have hW : Below w1.heap.size w1 W := by rw [hWe]; (repeat (first | with_reducible assumption | exact Below.refl _ _ | (refine Below.setCell ?_ (by first | exact Nat.le_refl _ | (simp; done) | omega | (simp; omega)) _) | (refine below_drewN ?_ _) | (refine Below.drew ?_) | (refine Below.alloc ?_ (by first | exact Nat.le_refl _ | (simp; done) | omega | (simp; omega)) _) | (refine then_ ?_ (by with_reducible assumption)) | assumption | (refine then_ ?_ (by assumption))))
  have zW : w1.heap.size < W.heap.size := by rw [hWe]; simp
  have q0 : W.cell? ⟨w1.heap.size, 0, none⟩ = some (.float .f32 1065353216) := by rw [hWe]; simp [go_sem]
  have q1 : W.cell? ⟨w1.heap.size, 1, none⟩ = some (.float .f32 1073741824) := by rw [hWe]; simp [go_sem]
  have q2 : W.cell? ⟨w1.heap.size, 2, none⟩ = some (.float .f32 1098907648) := by rw [hWe]; simp [go_sem]
  have q3 : W.cell? ⟨w1.heap.size, 3, none⟩ = some (.float .f32 1115684864) := by rw [hWe]; simp [go_sem]
  have q4 : W.cell? ⟨w1.heap.size, 4, none⟩ = some (.float .f32 1120403456) := by rw [hWe]; simp [go_sem]
  have q5 : W.cell? ⟨w1.heap.size, 5, none⟩ = some (.float .f32 1077936128) := by rw [hWe]; simp [go_sem]
  rw [← hWe]
  clear hWe
  have hne : w1.heap.size ≠ g := by have := hc1.2.2.1; omega
  refine (l1BelowC g A m c bs 6 _ (by omega) (by omega) (hc1.step hW)).mono ?_
  rintro e w2 ⟨y, hy, rfl, hc2, hg2⟩
  have hk := fun o => (gcell hg2).1 w1.heap.size o zW hne
  have c0 := (hk 0).trans q0
  have c1 := (hk 1).trans q1
  have c2 := (hk 2).trans q2
  have c3 := (hk 3).trans q3
  have c4 := (hk 4).trans q4
  have c5 := (hk 5).trans q5
  have G2 := grown_trans (grown_trans hg1 (grown_of_below hW (some g))) hg2
  clear q0 q1 q2 q3 q4 q5 hk hg1 hW hc1 hg2
  obtain ⟨d, hd, hcell⟩ : ∃ d, quoOk a d = true ∧ w2.cell? ⟨w1.heap.size, y, none⟩ = some (.float .f32 d) := by
    have e : y = 0 ∨ y = 1 ∨ y = 2 ∨ y = 3 ∨ y = 4 ∨ y = 5 := by omega
    rcases e with rfl | rfl | rfl | rfl | rfl | rfl
    · exact ⟨_, at_shift fine_1 rfl (by omega) a0 a1, c0⟩
    · exact ⟨_, at_shift fine_2 rfl (by omega) a0 a1, c1⟩
    · exact ⟨_, at_shift fine_16 rfl (by omega) a0 a1, c2⟩
    · exact ⟨_, at_shift fine_64 rfl (by omega) a0 a1, c3⟩
    · exact ⟨_, at_shift fine_100 rfl (by omega) a0 a1, c4⟩
    · exact ⟨_, at_shift fine_3 rfl (by omega) a0 a1, c5⟩
  obtain ⟨q1, q2, q3⟩ := quoOk_spec hd
  have Q2 := Lib.hid (show fineOk (quoW a d) from ⟨q2, q3⟩)
  obtain ⟨r, hr⟩ : ∃ r, r = quoW a d := ⟨_, rfl⟩
  rw [← hr] at q1 Q2
  have hq := fun wx => run_float_arith (P := Try.prog) wx .quo 22 .f32 (fl a) d r q1
  unfold fl at hq
  clear q1 q2 q3 hr c0 c1 c2 c3 c4 c5 hd
  have hy6 : (y : Int) < 6 := hy
  have hy0 : (0 : Int) ≤ (y : Int) := by omega
  go_wp2
  go_ret
  exact ⟨r, Q2.out, rfl, hc2, G2⟩
theorem run_neg_f32 {P : Program} (x : Nat) (w : World) : (Op.unary .neg (.float .f32 x)).run P w = .ok (.float .f32 (Go.Op.negFloat .f32 x)) w := rfl
theorem fine_zero : okW 0 = true := by decide +kernel
set_option maxHeartbeats 2000000 in
theorem l1PointC (g : Nat) (A : Option Addr) (m c : Nat) (bs : List Int) (w : World) (hc : CurB w g A m c bs) :
    Calls Try.prog 99 #[.pointer (some ⟨g, 0, none⟩)] w fun e w' => ∃ p : Nat × Nat, speedOk p ∧ e = .returned (.complex .f32 p.1 p.2) ∧ CurB w' g A m c bs ∧ w.grownBy w' (some g) := by
  go_enter Try.func99, Try.ntmps99
  go_wp2_with fail
  refine (l1FineC g A m c bs _ hc).mono ?_
  rintro e w1 ⟨x, hx, rfl, hc1, hg1⟩
  have HX := Lib.hid hx
  clear hx
  go_wp2_with fail
  refine (l1BelowC g A m c bs 7 _ (by omega) (by omega) hc1).mono ?_
  rintro e w2 ⟨y, hy, rfl, hc2, hg2⟩
  have G2 := grown_trans hg1 hg2
  by_cases y0 : y = 0
  · subst y0
    go_wp2
    go_ret
    exact ⟨(x, 0), ⟨HX.out.1, fine_zero⟩, rfl, hc2, G2⟩
  by_cases y1 : y = 1
  · subst y1
    go_wp2
    go_ret
    exact ⟨(0, x), ⟨fine_zero, HX.out.1⟩, rfl, hc2, G2⟩
  by_cases y2 : y = 2
  · subst y2
    go_wp2
    go_ret
    exact ⟨(x, x), ⟨HX.out.1, HX.out.1⟩, rfl, hc2, G2⟩
  by_cases y3 : y = 3
  · subst y3
    have hneg := fun wx => run_neg_f32 (P := Try.prog) x wx
    go_wp2
    go_ret
    exact ⟨(x, Go.Op.negFloat .f32 x), ⟨HX.out.1, HX.out.2⟩, rfl, hc2, G2⟩
  have n0 : ¬ (y : Int) = 0 := by omega
  have n1 : ¬ (y : Int) = 1 := by omega
  have n2 : ¬ (y : Int) = 2 := by omega
  have n3 : ¬ (y : Int) = 3 := by omega
  go_wp2_with fail
  refine (l1FineC g A m c bs _ hc2).mono ?_
  rintro e w3 ⟨z, hz, rfl, hc3, hg3⟩
  have HZ := Lib.hid hz
  clear hz
  go_wp2
  go_ret
  exact ⟨(x, z), ⟨HX.out.1, HZ.out.1⟩, rfl, hc3, grown_trans G2 hg3⟩
end Go.Proofs.Ytoafldgngbaddaa

/- l1Fine, of which a sixteenth is taken. -/
namespace Go.Proofs.Ytoafldgngbaddaa
open Go.RowKit
attribute [local go_sem] run_store_float run_store_complex

set_option maxHeartbeats 2000000 in
theorem l1Fine16C (g : Nat) (A : Option Addr) (m c : Nat) (bs : List Int) (w : World) (hc : CurB w g A m c bs) :
    Calls Try.prog 65 #[.pointer (some ⟨g, 0, none⟩)] w fun e w' => ∃ x : Nat, sixOk x = true ∧ e = .returned (.float .f32 x) ∧ CurB w' g A m c bs ∧ w.grownBy w' (some g) := by
  go_enter Try.func65, Try.ntmps65
  go_wp2_with fail
  refine (l1SomeW g A m c bs (-640) 640 _ (by omega) (by omega) (by omega) hc).mono ?_
  rintro e w1 ⟨a, a0, a1, rfl, hc1, hg1⟩
  go_wp2_with fail
  obtain ⟨W, hWe⟩ : ∃ W, W = w1.alloc (Obj.cells #[.float .f32 1065353216, .float .f32 1073741824, .float .f32 1098907648, .float .f32 1115684864, .float .f32 1120403456, .float .f32 1077936128] 22) := ⟨_, rfl⟩
  have hW : Below w1.heap.size w1 W := by rw [hWe]; (repeat (first | with_reducible assumption | exact Below.refl _ _ | (refine Below.setCell ?_ (by first | exact Nat.le_refl _ | (simp; done) | omega | (simp; omega)) _) | (refine below_drewN ?_ _) | (refine Below.drew ?_) | (refine Below.alloc ?_ (by first | exact Nat.le_refl _ | (simp; done) | omega | (simp; omega)) _) | (refine then_ ?_ (by with_reducible assumption)) | assumption | (refine then_ ?_ (by assumption))))
  have zW : w1.heap.size < W.heap.size := by rw [hWe]; simp
  have q0 : W.cell? ⟨w1.heap.size, 0, none⟩ = some (.float .f32 1065353216) := by rw [hWe]; simp [go_sem]
  have q1 : W.cell? ⟨w1.heap.size, 1, none⟩ = some (.float .f32 1073741824) := by rw [hWe]; simp [go_sem]
  have q2 : W.cell? ⟨w1.heap.size, 2, none⟩ = some (.float .f32 1098907648) := by rw [hWe]; simp [go_sem]
  have q3 : W.cell? ⟨w1.heap.size, 3, none⟩ = some (.float .f32 1115684864) := by rw [hWe]; simp [go_sem]
  have q4 : W.cell? ⟨w1.heap.size, 4, none⟩ = some (.float .f32 1120403456) := by rw [hWe]; simp [go_sem]
  have q5 : W.cell? ⟨w1.heap.size, 5, none⟩ = some (.float .f32 1077936128) := by rw [hWe]; simp [go_sem]
  rw [← hWe]
  clear hWe
  have hne : w1.heap.size ≠ g := by have := hc1.2.2.1; omega
  refine (l1BelowC g A m c bs 6 _ (by omega) (by omega) (hc1.step hW)).mono ?_
  rintro e w2 ⟨y, hy, rfl, hc2, hg2⟩
  have hk := fun o => (gcell hg2).1 w1.heap.size o zW hne
  have c0 := (hk 0).trans q0
  have c1 := (hk 1).trans q1
  have c2 := (hk 2).trans q2
  have c3 := (hk 3).trans q3
  have c4 := (hk 4).trans q4
  have c5 := (hk 5).trans q5
  have G2 := grown_trans (grown_trans hg1 (grown_of_below hW (some g))) hg2
  clear q0 q1 q2 q3 q4 q5 hk hg1 hW hc1 hg2
  obtain ⟨d, ⟨hd, hs⟩, hcell⟩ : ∃ d, (quoOk a d = true ∧ sixOk (quoW a d) = true) ∧ w2.cell? ⟨w1.heap.size, y, none⟩ = some (.float .f32 d) := by
    have e : y = 0 ∨ y = 1 ∨ y = 2 ∨ y = 3 ∨ y = 4 ∨ y = 5 := by omega
    rcases e with rfl | rfl | rfl | rfl | rfl | rfl
    · exact ⟨_, six_at six_1 (by omega) a0 a1, c0⟩
    · exact ⟨_, six_at six_2 (by omega) a0 a1, c1⟩
    · exact ⟨_, six_at six_16 (by omega) a0 a1, c2⟩
    · exact ⟨_, six_at six_64 (by omega) a0 a1, c3⟩
    · exact ⟨_, six_at six_100 (by omega) a0 a1, c4⟩
    · exact ⟨_, six_at six_3 (by omega) a0 a1, c5⟩
  obtain ⟨q1, q2, q3⟩ := quoOk_spec hd
  have Q2 := Lib.hid hs
  obtain ⟨r, hr⟩ : ∃ r, r = quoW a d := ⟨_, rfl⟩
  rw [← hr] at q1 Q2
  have hq := fun wx => run_float_arith (P := Try.prog) wx .quo 22 .f32 (fl a) d r q1
  unfold fl at hq
  clear q1 q2 q3 hs hr c0 c1 c2 c3 c4 c5 hd
  have hy6 : (y : Int) < 6 := hy
  have hy0 : (0 : Int) ≤ (y : Int) := by omega
  go_wp2
  go_ret
  exact ⟨r, Q2.out, rfl, hc2, G2⟩
end Go.Proofs.Ytoafldgngbaddaa

/- The walks of ActSym, ThenSym, BackSym. -/
namespace Go.Proofs.Ytoafldgngbaddaa
open Go.RowKit

def symV (t : Int) (f : Bool) : Value := .agg #[.int .i64 t, .bool f]
/-- impl.ActSym -/
def actP (t : Int) (f : Bool) (re im : Nat) : Nat × Nat := if inB t 0 3 && pointB re im then actI t f re im else (0, 0)

theorem inB_true {n lo hi : Int} (h : inB n lo hi = true) : lo ≤ n ∧ n ≤ hi := by simpa [inB] using h

set_option maxHeartbeats 1000000 in
theorem actSym_ok (t : Int) (f : Bool) (re im : Nat) (w : World) (ht : inB t 0 3 = true) (hp : pointB re im = true) :
    Calls Try.prog 76 #[.agg #[.int .i64 t, .bool f], .complex .f32 re im] w fun e w' => e = .returned (cxV (actI t f re im)) ∧ Below w.heap.size w w' := by
  obtain ⟨t0, t3⟩ := inB_true ht
  obtain ⟨t, rfl⟩ := Int.eq_ofNat_of_zero_le t0
  obtain ⟨p0, R0⟩ : ∃ p0, p0 = (re, flipB f im) := ⟨_, rfl⟩
  have R := Lib.hid R0
  clear R0
  cases f
  all_goals
    go_enter Try.func76, Try.ntmps76
    go_wp2_with (first
      | (go_at_call 103; refine (isSym_any _ _ _).mono ?_; rintro e w1 ⟨rfl, hb1⟩; simp only [ht]; obtain ⟨hc1, hf1⟩ := bcell hb1)
      | (go_at_call 68; refine (isPoint_any _ _ _).mono ?_; rintro e w' ⟨rfl, rfl⟩; simp only [hp])
      | (go_at_call 104; refine (diff_any _ _ _).mono ?_; rintro e w' ⟨rfl, n, rfl⟩))
    have hb := after1 hb1
    go_loopw [5, 6, 25] (fun x y i wr => ∃ k : Nat, k ≤ t ∧ i = .int .i64 k ∧ x = .float .f32 (rotN k p0).1 ∧ y = .float .f32 (rotN k p0).2 ∧ Below w.heap.size w wr) (fun _ _ i _ => t - (intOf i).toNat)
    case atStart => exact ⟨0, Nat.zero_le _, rfl, by rw [R.out]; rfl, by rw [R.out]; rfl, by first | exact hb | exact below_drewN hb _⟩
    case round =>
      clear hb hc1 hf1 hb1
      obtain ⟨k, hk, rfl, rfl, rfl, hb⟩ := hrel
      by_cases hlt : k < t
      · go_wp2_with (go_at_call 104; refine (diff_any _ _ _).mono ?_; rintro e w' ⟨rfl, n, rfl⟩)
        go_roundw
        case rel => exact ⟨k + 1, by omega, by go_num, rfl, rfl, below_drewN hb _⟩
        case measure => simp [intOf]; omega
      · obtain rfl : k = t := by omega
        go_wp2_with (go_at_call 105; refine (clean_any _ _).mono ?_; rintro e w' ⟨rfl, n, rfl⟩)
        go_ret
        exact ⟨by unfold actI; rw [Int.toNat_natCast, ← R.out]; rfl, below_drewN hb _⟩

theorem actSym_any (t : Int) (f : Bool) (re im : Nat) (w : World) :
    Calls Try.prog 76 #[.agg #[.int .i64 t, .bool f], .complex .f32 re im] w fun e w' => e = .returned (cxV (actP t f re im)) ∧ Below w.heap.size w w' := by
  have r : actP t f re im = if inB t 0 3 && pointB re im then actI t f re im else (0, 0) := rfl
  cases ht : inB t 0 3
  · rw [ht] at r
    have R := Lib.hid r
    clear r
    go_enter Try.func76, Try.ntmps76
    go_wp2_with (go_at_call 103; refine (isSym_any _ _ _).mono ?_; rintro e w1 ⟨rfl, hb1⟩; simp only [ht]; obtain ⟨hc1, hf1⟩ := bcell hb1)
    go_ret
    exact ⟨by rw [R.out]; rfl, after1 hb1⟩
  · cases hp : pointB re im
    · rw [ht, hp] at r
      have R := Lib.hid r
      clear r
      go_enter Try.func76, Try.ntmps76
      go_wp2_with (first
        | (go_at_call 103; refine (isSym_any _ _ _).mono ?_; rintro e w1 ⟨rfl, hb1⟩; simp only [ht]; obtain ⟨hc1, hf1⟩ := bcell hb1)
        | (go_at_call 68; refine (isPoint_any _ _ _).mono ?_; rintro e w' ⟨rfl, rfl⟩; simp only [hp]))
      go_ret
      exact ⟨by rw [R.out]; rfl, after1 hb1⟩
    · rw [ht, hp] at r
      rw [r]
      exact actSym_ok t f re im w ht hp

/-- impl.ThenSym -/
def thenT (gt : Int) (ht : Int) (hf : Bool) : Int := (ht + (if hf then 4 - gt else gt)) % 4
def thenP (gt : Int) (gf : Bool) (ht : Int) (hf : Bool) : Int × Bool := if inB gt 0 3 && inB ht 0 3 then (thenT gt ht hf, gf != hf) else (0, false)
def symP (p : Int × Bool) : Value := symV p.1 p.2

end Go.Proofs.Ytoafldgngbaddaa

/- SymsOf, both versions: the symmetries of mirrors. -/
namespace Go.Proofs.Ytoafldgngbaddaa
open Go.RowKit
attribute [local go_sem] run_store_float run_store_complex

def ofB (kind : Int) (g : Int × Bool) : Bool := if kind = 0 then g.1 == 0 && !g.2 else if kind = 1 then g.1 == 0 else if kind = 2 then g.1 % 2 == 0 else kind == 3
def okB (kind : Int) (g : Int × Bool) : Bool := inB kind 0 3 && ofB kind g
def symsUp (kind : Int) (m : Nat) : List (Int × Bool) := ((List.range m).map sym8).filter (okB kind)
def symsL (kind : Int) : List (Int × Bool) := symsUp kind 8

theorem symsUp_succ (kind : Int) (m : Nat) : symsUp kind (m + 1) = symsUp kind m ++ if okB kind (sym8 m) then [sym8 m] else [] := by
  unfold symsUp
  rw [List.range_succ, List.map_append, List.filter_append]
  simp [List.filter_cons]
theorem symsUp_yes {kind : Int} {m : Nat} (h : okB kind (sym8 m) = true) : symsUp kind (m + 1) = symsUp kind m ++ [sym8 m] := by rw [symsUp_succ, if_pos h]
theorem symsUp_no {kind : Int} {m : Nat} (h : okB kind (sym8 m) = false) : symsUp kind (m + 1) = symsUp kind m := by rw [symsUp_succ, if_neg (by simp [h]), List.append_nil]
theorem symsL_no {kind : Int} (h : inB kind 0 3 = false) : symsL kind = [] := by
  unfold symsL symsUp
  rw [List.filter_eq_nil_iff]
  intro g _
  simp [okB, h]
theorem symsUp_len (kind : Int) (m : Nat) : (symsUp kind m).length ≤ m := by
  unfold symsUp
  exact Nat.le_trans (List.length_filter_le _ _) (by simp)

/-- slice v's own block is another one than g -/
def Off (v : Value) (g : Nat) : Prop := v.ownBlock ≠ some g
theorem Off.next {v v' : Value} {g n : Nat} (h : Off v g) (hn : g < n) (hat : v'.ownBlock = v.ownBlock ∨ v'.ownBlock = some n) : Off v' g := by
  unfold Off at *
  rcases hat with e | e
  · rw [e]; exact h
  · rw [e]; intro h1; injection h1 with h1; omega
theorem Rd.grown {α : Type} {enc : α → List Value} {sz : Nat} {w w' : World} {B g n : Nat} {xs : List α} {v : Value} {o : Nat} (h : Rd enc sz w B (some ⟨g, o, none⟩) n xs) (hg : w.grownBy w' v.ownBlock) (hlt : g < w.heap.size) (hoff : Off v g) :
    Rd enc sz w' B (some ⟨g, o, none⟩) n xs :=
  ⟨h.1, fun hn => by
    obtain ⟨b, off, e, hb, hc⟩ := h.2 hn
    injection e with e
    injection e with e1 e2
    subst e1 e2
    exact ⟨g, o, rfl, hb, fun k x hx j u hu => (World.cell?_of_block (hg.block g hlt (fun e => hoff e.symm))).trans (hc k x hx j u hu)⟩⟩
theorem allSyms_at {k : Nat} (h : k < 8) : allSyms[k]? = some (sym8 k) := by simp [allSyms, h]
theorem sym8_t : ∀ k : Nat, k < 8 → inB (sym8 k).1 0 3 = true := by decide

theorem isKind_any (n : Int) (w : World) :
    Calls Try.prog 69 #[.int .i64 n] w fun e w' => e = .returned (.bool (inB n 0 3)) ∧ w = w' := by
  go_enter Try.func69, Try.ntmps69
  go_wp2_with (go_at_call 37; refine (within_any _ _ _ _).mono ?_; rintro e w' ⟨rfl, rfl⟩)
  go_ret
  exact ⟨rfl, rfl⟩

set_option maxHeartbeats 1000000 in
theorem l1Of_any (kind t : Int) (f : Bool) (w : World) (hk : inB kind 0 3 = true) (ht : inB t 0 3 = true) :
    Calls Try.prog 123 #[.int .i64 kind, .agg #[.int .i64 t, .bool f]] w fun e w' => e = .returned (.bool (ofB kind (t, f))) ∧ Below w.heap.size w w' := by
  obtain ⟨k0, k3⟩ := inB_true hk
  obtain ⟨t0, t3⟩ := inB_true ht
  clear hk ht
  have e : kind = 0 ∨ kind = 1 ∨ kind = 2 ∨ kind = 3 := by omega
  rcases e with rfl | rfl | rfl | rfl
  · by_cases e : t = 0
    · subst e
      cases f
      all_goals
        go_enter Try.func123, Try.ntmps123
        go_wp2
        go_ret
        exact ⟨by simp [ofB], by (repeat (first | with_reducible assumption | exact Below.refl _ _ | (refine Below.setCell ?_ (by first | exact Nat.le_refl _ | (simp; done) | omega | (simp; omega)) _) | (refine below_drewN ?_ _) | (refine Below.drew ?_) | (refine Below.alloc ?_ (by first | exact Nat.le_refl _ | (simp; done) | omega | (simp; omega)) _) | (refine then_ ?_ (by with_reducible assumption)) | assumption | (refine then_ ?_ (by assumption))))⟩
    · cases f
      all_goals
        go_enter Try.func123, Try.ntmps123
        go_wp2
        go_ret
        exact ⟨by simp [ofB, e], by (repeat (first | with_reducible assumption | exact Below.refl _ _ | (refine Below.setCell ?_ (by first | exact Nat.le_refl _ | (simp; done) | omega | (simp; omega)) _) | (refine below_drewN ?_ _) | (refine Below.drew ?_) | (refine Below.alloc ?_ (by first | exact Nat.le_refl _ | (simp; done) | omega | (simp; omega)) _) | (refine then_ ?_ (by with_reducible assumption)) | assumption | (refine then_ ?_ (by assumption))))⟩
  all_goals
    go_enter Try.func123, Try.ntmps123
    go_wp2
    go_ret
    exact ⟨by simp [ofB], by (repeat (first | with_reducible assumption | exact Below.refl _ _ | (refine Below.setCell ?_ (by first | exact Nat.le_refl _ | (simp; done) | omega | (simp; omega)) _) | (refine below_drewN ?_ _) | (refine Below.drew ?_) | (refine Below.alloc ?_ (by first | exact Nat.le_refl _ | (simp; done) | omega | (simp; omega)) _) | (refine then_ ?_ (by with_reducible assumption)) | assumption | (refine then_ ?_ (by assumption))))⟩

set_option maxRecDepth 100000 in
set_option maxHeartbeats 4000000 in
theorem specSymsOf_any (kind : Int) (w : World) :
    Calls Try.prog 118 #[.int .i64 kind] w fun e w' => ∃ A c, e = .returned (.slice A (symsL kind).length c) ∧ w'.ownsRow w.heap.size 99 2 (.slice A (symsL kind).length c) (symsL kind).length (flat symC (symsL kind)) ∧ Below w.heap.size w w' := by
  obtain ⟨i0, hi, hz0, hz1, hz2⟩ := info_parts infoSym
  go_enter Try.func118, Try.ntmps118
  go_wp2_with fail
  refine (l1All_any _).mono ?_
  rintro e w1 ⟨A, c, rfl, ho1, hb1⟩
  obtain ⟨ga, rfl⟩ : ∃ ga, A = some ⟨ga, 0, none⟩ := by
    rcases ho1.2 with ⟨_, h0⟩ | ⟨ga, _, _, h0, _⟩
    · omega
    · injection h0 with h1
      exact ⟨ga, h1⟩
  have r1 : Rd symC 2 w1 w1.heap.size (some ⟨ga, 0, none⟩) 8 allSyms := Rd.of_own symC_len (by rfl) ho1
  obtain ⟨g1, g2⟩ := ho1.lt ga rfl
  simp only [World.size_alloc] at g1
  have o0 := owns_below (World.ownsRow_lit (base := w.heap.size) w #[] 0 (Nat.le_refl _) (by simp [maxLen]) rfl : World.ownsRow _ w.heap.size 99 2 _ 0 []) hb1
  have hB1 : Below w.heap.size w w1 := by (repeat (first | with_reducible assumption | exact Below.refl _ _ | (refine Below.setCell ?_ (by first | exact Nat.le_refl _ | (simp; done) | omega | (simp; omega)) _) | (refine below_drewN ?_ _) | (refine Below.drew ?_) | (refine Below.alloc ?_ (by first | exact Nat.le_refl _ | (simp; done) | omega | (simp; omega)) _) | (refine then_ ?_ (by with_reducible assumption)) | assumption | (refine then_ ?_ (by assumption))))
  clear hb1 ho1
  have O0 := Lib.hid o0
  clear o0
  go_wp2_with fail
  go_loopw [3, 9] (fun v i wr => ∃ k : Nat, k ≤ 8 ∧ i = .int .i64 k ∧ (∃ A c, v = .slice A (symsUp kind k).length c) ∧ wr.ownsRow w.heap.size 99 2 v (symsUp kind k).length (flat symC (symsUp kind k)) ∧ Off v ga ∧ Rd symC 2 wr w1.heap.size (some ⟨ga, 0, none⟩) 8 allSyms ∧ w1.heap.size ≤ wr.heap.size ∧ Below w.heap.size w wr) (fun _ i _ => 8 - (intOf i).toNat)
  case atStart => exact ⟨0, by omega, rfl, ⟨_, _, rfl⟩, O0.out, by unfold Off Value.ownBlock; simp; omega, r1, Nat.le_refl _, hB1⟩
  case round =>
    obtain ⟨k, hk, rfl, ⟨A1, c1, rfl⟩, hown, hoff, hrd, hsz, hw⟩ := hrel
    have OW := Lib.hid hown
    have OFF := Lib.hid hoff
    have RD := Lib.hid hrd
    clear hown hoff r1
    by_cases hlt : k < 8
    · obtain ⟨b, off, t, f, e, _, hx, h0, h1⟩ := hrd.sym hlt
      injection e with e
      injection e with e1 e2
      subst e1 e2
      rw [allSyms_at hlt] at hx
      have ht := sym8_t k hlt
      have E := Lib.hid hx
      injection hx with hx
      rw [hx] at ht
      clear hx hrd
      simp only [Nat.zero_add] at h0 h1
      simp only at ht
      have hk0 : (0 : Int) ≤ (k : Int) := by omega
      have hk8 : (k : Int) < 8 := by omega
      have LN := symsUp_len kind k
      cases hq : inB kind 0 3
      · have S := Lib.hid (symsUp_no (kind := kind) (m := k) (by simp [okB, hq]))
        go_wp2_with (go_at_call 47; refine (l1In_any _ _ _ _).mono ?_; rintro e w' ⟨rfl, rfl⟩; simp only [hq])
        go_roundw
        case rel =>
          refine ⟨k + 1, by omega, by go_num, ?_⟩
          rw [S.out]
          exact ⟨⟨_, _, rfl⟩, owns_below OW.out (by (repeat (first | with_reducible assumption | exact Below.refl _ _ | (refine Below.setCell ?_ (by first | exact Nat.le_refl _ | (simp; done) | omega | (simp; omega)) _) | (refine below_drewN ?_ _) | (refine Below.drew ?_) | (refine Below.alloc ?_ (by first | exact Nat.le_refl _ | (simp; done) | omega | (simp; omega)) _) | (refine then_ ?_ (by with_reducible assumption)) | assumption | (refine then_ ?_ (by assumption))))), OFF.out, RD.out.keep (fun p hp => Below.cell (w := wr) (B := wr.heap.size) (by (repeat (first | with_reducible assumption | exact Below.refl _ _ | (refine Below.setCell ?_ (by first | exact Nat.le_refl _ | (simp; done) | omega | (simp; omega)) _) | (refine below_drewN ?_ _) | (refine Below.drew ?_) | (refine Below.alloc ?_ (by first | exact Nat.le_refl _ | (simp; done) | omega | (simp; omega)) _) | (refine then_ ?_ (by with_reducible assumption)) | assumption | (refine then_ ?_ (by assumption))))) (by omega)), by simp; omega, by (repeat (first | with_reducible assumption | exact Below.refl _ _ | (refine Below.setCell ?_ (by first | exact Nat.le_refl _ | (simp; done) | omega | (simp; omega)) _) | (refine below_drewN ?_ _) | (refine Below.drew ?_) | (refine Below.alloc ?_ (by first | exact Nat.le_refl _ | (simp; done) | omega | (simp; omega)) _) | (refine then_ ?_ (by with_reducible assumption)) | assumption | (refine then_ ?_ (by assumption))))⟩
        case measure => simp [intOf]; omega
      · cases ho : ofB kind (t, f)
        · have S := Lib.hid (symsUp_no (kind := kind) (m := k) (by rw [Option.some.inj E.out]; simp [okB, ho]))
          go_wp2_with (first
            | (go_at_call 47; refine (l1In_any _ _ _ _).mono ?_; rintro e w' ⟨rfl, rfl⟩; simp only [hq])
            | (go_at_call 123; refine (l1Of_any _ _ _ _ hq ht).mono ?_; rintro e w2 ⟨rfl, hb2⟩; simp only [ho]))
          go_roundw
          case rel =>
            refine ⟨k + 1, by omega, by go_num, ?_⟩
            rw [S.out]
            exact ⟨⟨_, _, rfl⟩, owns_below OW.out (by (repeat (first | with_reducible assumption | exact Below.refl _ _ | (refine Below.setCell ?_ (by first | exact Nat.le_refl _ | (simp; done) | omega | (simp; omega)) _) | (refine below_drewN ?_ _) | (refine Below.drew ?_) | (refine Below.alloc ?_ (by first | exact Nat.le_refl _ | (simp; done) | omega | (simp; omega)) _) | (refine then_ ?_ (by with_reducible assumption)) | assumption | (refine then_ ?_ (by assumption))))), OFF.out, RD.out.keep (fun p hp => Below.cell (w := wr) (B := wr.heap.size) (by (repeat (first | with_reducible assumption | exact Below.refl _ _ | (refine Below.setCell ?_ (by first | exact Nat.le_refl _ | (simp; done) | omega | (simp; omega)) _) | (refine below_drewN ?_ _) | (refine Below.drew ?_) | (refine Below.alloc ?_ (by first | exact Nat.le_refl _ | (simp; done) | omega | (simp; omega)) _) | (refine then_ ?_ (by with_reducible assumption)) | assumption | (refine then_ ?_ (by assumption))))) (by omega)), by have := hb2.size; simp at this; omega, by (repeat (first | with_reducible assumption | exact Below.refl _ _ | (refine Below.setCell ?_ (by first | exact Nat.le_refl _ | (simp; done) | omega | (simp; omega)) _) | (refine below_drewN ?_ _) | (refine Below.drew ?_) | (refine Below.alloc ?_ (by first | exact Nat.le_refl _ | (simp; done) | omega | (simp; omega)) _) | (refine then_ ?_ (by with_reducible assumption)) | assumption | (refine then_ ?_ (by assumption))))⟩
          case measure => simp [intOf]; omega
        · have S := Lib.hid (symsUp_yes (kind := kind) (m := k) (by rw [Option.some.inj E.out]; simp [okB, ho, hq]))
          go_wp2_with (first
            | (go_at_call 47; refine (l1In_any _ _ _ _).mono ?_; rintro e w' ⟨rfl, rfl⟩; simp only [hq])
            | (go_at_call 123; refine (l1Of_any _ _ _ _ hq ht).mono ?_; rintro e w2 ⟨rfl, hb2⟩; simp only [ho]; have kc_0 := keepC (p := ⟨wr.heap.size, 0, none⟩) (v := .int .i64 t) (by first | assumption | (simp [go_sem]; done) | (simp [go_sem, *]; done)) hb2; have kc_1 := keepC (p := ⟨wr.heap.size, 1, none⟩) (v := .bool f) (by first | assumption | (simp [go_sem]; done) | (simp [go_sem, *]; done)) hb2; have lb_ := (show wr.heap.size < _ from World.block_lt_of_cell? _ _ kc_0); have hB2 : Below wr.heap.size wr w2 := (by (repeat (first | with_reducible assumption | exact Below.refl _ _ | (refine Below.setCell ?_ (by first | exact Nat.le_refl _ | (simp; done) | omega | (simp; omega)) _) | (refine below_drewN ?_ _) | (refine Below.drew ?_) | (refine Below.alloc ?_ (by first | exact Nat.le_refl _ | (simp; done) | omega | (simp; omega)) _) | (refine then_ ?_ (by with_reducible assumption)) | assumption | (refine then_ ?_ (by assumption))))); have hW2 := then_ hw hB2; have OW2 := Lib.hid (owns_below OW.out hB2); have hs2 := hB2.size; clear hb2)
            | (at_builtin; refine wpList_append_own_at _ rfl _ _ 120 rfl w.heap.size 99 i0 (.agg #[.int .i64 0, .bool false]) 2 16 Try.underlying120 hi hz0 hz1 hz2 rfl (by decide) _ _ _ rfl (OW2.out.alloc _) ⟨w2.heap.size, 0, none⟩ 1 1 [.int .i64 t, .bool f] rfl rfl ?c13 ?c23 ?c33 ?c43 ?c53 ?_; (case c13 => exact World.news_of_block (cs := #[.int .i64 t, .bool f]) (t := 99) (fr := (0, 0)) (heap_alloc_new w2 _)); (case c23 => simp [Value.oneCell']); (case c33 => unfold maxLen; omega); (case c43 => omega); (case c53 => (have := Below.size hW2; simp only [World.size_alloc]; omega)); intro v3 w3 hown3 hg3 hne3 hat3; simp only [World.size_alloc] at hat3; have GB3 := Lib.hid hg3; have OW3 := Lib.hid hown3; have BW3 := below_append hW2 OW2.out hg3; have NB3 := Lib.hid hat3; clear hown3 hg3 hne3 hat3))
          go_roundw
          case rel =>
            refine ⟨k + 1, by omega, by go_num, ?_⟩
            rw [S.out]
            obtain ⟨A3, c3, rfl⟩ := owns_slice OW3.out
            have hn : (symsUp kind k ++ [sym8 k]).length = (symsUp kind k).length + 1 := by simp
            rw [hn]
            refine ⟨⟨_, _, rfl⟩, ?_, OFF.out.next (by omega) NB3.out, ?_, ?_, BW3⟩
            · have e : flat symC (symsUp kind k ++ [sym8 k]) = flat symC (symsUp kind k) ++ [.int .i64 t, .bool f] := by
                rw [flat_append, Option.some.inj E.out]
                rfl
              rw [e]
              exact OW3.out
            · exact Rd.grown (RD.out.keep (fun p hp => Below.cell (w := wr) (B := wr.heap.size) (by (repeat (first | with_reducible assumption | exact Below.refl _ _ | (refine Below.setCell ?_ (by first | exact Nat.le_refl _ | (simp; done) | omega | (simp; omega)) _) | (refine below_drewN ?_ _) | (refine Below.drew ?_) | (refine Below.alloc ?_ (by first | exact Nat.le_refl _ | (simp; done) | omega | (simp; omega)) _) | (refine then_ ?_ (by with_reducible assumption)) | assumption | (refine then_ ?_ (by assumption))))) (by omega))) GB3.out (by simp only [World.size_alloc]; omega) OFF.out
            · have := BW3.size
              have := GB3.out.size
              simp only [World.size_alloc] at this
              omega
          case measure => simp [intOf]; omega
    · obtain rfl : k = 8 := by omega
      go_wp2
      go_ret
      exact ⟨_, _, rfl, OW.out, hw⟩

def Bools (w : World) (g : Nat) : Prop := w.cell? ⟨g, 0, none⟩ = some (.bool false) ∧ w.cell? ⟨g, 1, none⟩ = some (.bool true)
theorem Bools.at_ {w : World} {g j : Nat} (h : Bools w g) (hj : j < 2) : w.cell? ⟨g, j, none⟩ = some (.bool (decide (1 ≤ j))) := by
  match j, hj with
  | 0, _ => exact h.1
  | 1, _ => exact h.2
theorem sym8_jk : ∀ j : Nat, j < 2 → ∀ k : Nat, k < 4 → sym8 (4 * j + k) = ((k : Int), decide (1 ≤ j)) := by decide
theorem Bools.step {w w' : World} {g : Nat} (h : Bools w g) (hb : Below w.heap.size w w') : Bools w' g :=
  ⟨(hb.cell (World.block_lt_of_cell? w _ h.1)).trans h.1, (hb.cell (World.block_lt_of_cell? w _ h.2)).trans h.2⟩
theorem Bools.grown {w w' : World} {g : Nat} {v : Value} (h : Bools w g) (hg : w.grownBy w' v.ownBlock) (hlt : g < w.heap.size) (hoff : Off v g) : Bools w' g :=
  ⟨(World.cell?_of_block (hg.block g hlt (fun e => hoff e.symm))).trans h.1, (World.cell?_of_block (hg.block g hlt (fun e => hoff e.symm))).trans h.2⟩

set_option maxRecDepth 100000 in
set_option maxHeartbeats 8000000 in
theorem symsOf_any (kind : Int) (w : World) :
    Calls Try.prog 102 #[.int .i64 kind] w fun e w' => ∃ A c, e = .returned (.slice A (symsL kind).length c) ∧ w'.ownsRow w.heap.size 99 2 (.slice A (symsL kind).length c) (symsL kind).length (flat symC (symsL kind)) ∧ Below w.heap.size w w' := by
  obtain ⟨i0, hi, hz0, hz1, hz2⟩ := info_parts infoSym
  cases hk : inB kind 0 3
  · have S := Lib.hid (symsL_no hk)
    go_enter Try.func102, Try.ntmps102
    go_wp2_with (go_at_call 69; refine (isKind_any _ _).mono ?_; rintro e w' ⟨rfl, rfl⟩; simp only [hk])
    go_ret
    rw [S.out]
    exact ⟨none, 0, rfl, ⟨rfl, .inl ⟨rfl, rfl⟩⟩, Below.refl _ _⟩
  · obtain ⟨k0, k3⟩ := inB_true hk
    go_enter Try.func102, Try.ntmps102
    go_wp2_with (go_at_call 69; refine (isKind_any _ _).mono ?_; rintro e w' ⟨rfl, rfl⟩; simp only [hk])
    have o0 : World.ownsRow _ w.heap.size 99 2 _ 0 [] := owns_below (World.ownsRow_lit (base := w.heap.size) w #[] 0 (Nat.le_refl _) (by simp [maxLen]) rfl) (show Below _ _ ((w.alloc (.cells #[] 99 (0, 0))).alloc (.cells #[.bool false, .bool true] 4 (0, 0))) by (repeat (first | with_reducible assumption | exact Below.refl _ _ | (refine Below.setCell ?_ (by first | exact Nat.le_refl _ | (simp; done) | omega | (simp; omega)) _) | (refine below_drewN ?_ _) | (refine Below.drew ?_) | (refine Below.alloc ?_ (by first | exact Nat.le_refl _ | (simp; done) | omega | (simp; omega)) _) | (refine then_ ?_ (by with_reducible assumption)) | assumption | (refine then_ ?_ (by assumption)))))
    have O0 := Lib.hid o0
    clear o0
    have hk' := Lib.hid hk
    clear hk
    go_loopw [3, 13] (fun v i wr => ∃ j : Nat, j ≤ 2 ∧ i = .int .i64 j ∧ (∃ A c, v = .slice A (symsUp kind (4 * j)).length c) ∧ wr.ownsRow w.heap.size 99 2 v (symsUp kind (4 * j)).length (flat symC (symsUp kind (4 * j))) ∧ Off v (w.heap.size + 1) ∧ Bools wr (w.heap.size + 1) ∧ w.heap.size + 2 ≤ wr.heap.size ∧ Below w.heap.size w wr) (fun _ i _ => 2 - (intOf i).toNat)
    case atStart => exact ⟨0, by omega, rfl, ⟨_, _, rfl⟩, O0.out, by unfold Off Value.ownBlock; simp, ⟨by simp [go_sem], by simp [go_sem]⟩, by simp, by (repeat (first | with_reducible assumption | exact Below.refl _ _ | (refine Below.setCell ?_ (by first | exact Nat.le_refl _ | (simp; done) | omega | (simp; omega)) _) | (refine below_drewN ?_ _) | (refine Below.drew ?_) | (refine Below.alloc ?_ (by first | exact Nat.le_refl _ | (simp; done) | omega | (simp; omega)) _) | (refine then_ ?_ (by with_reducible assumption)) | assumption | (refine then_ ?_ (by assumption))))⟩
    case round =>
      obtain ⟨j, hj, rfl, ⟨A1, c1, rfl⟩, hown, hoff, hbs, hsz, hw⟩ := hrel
      have OW := Lib.hid hown
      have OFF := Lib.hid hoff
      have BS := Lib.hid hbs
      clear hown hoff
      by_cases hlt : j < 2
      · have hc := hbs.at_ hlt
        have hj0 : (0 : Int) ≤ (j : Int) := by omega
        have hj2 : (j : Int) < 2 := by omega
        clear hbs
        obtain ⟨f, F⟩ : ∃ f, Hid (f = decide (1 ≤ j)) := ⟨_, Lib.hid rfl⟩
        rw [← F.out] at hc
        go_wp2_with fail
        clear hc
        have SZ := Lib.hid hsz
        have HW := Lib.hid hw
        clear hsz hw
        go_loopw [3, 17] (fun v i wx => ∃ k : Nat, k ≤ 4 ∧ i = .int .i64 k ∧ (∃ A c, v = .slice A (symsUp kind (4 * j + k)).length c) ∧ wx.ownsRow w.heap.size 99 2 v (symsUp kind (4 * j + k)).length (flat symC (symsUp kind (4 * j + k))) ∧ Off v (w.heap.size + 1) ∧ Bools wx (w.heap.size + 1) ∧ w.heap.size + 2 ≤ wx.heap.size ∧ Below w.heap.size w wx) (fun _ i _ => 4 - (intOf i).toNat)
        case atStart => exact ⟨0, by omega, rfl, ⟨_, _, rfl⟩, OW.out, OFF.out, BS.out, SZ.out, HW.out⟩
        case round =>
          clear OW OFF BS SZ HW
          obtain ⟨k, hk, rfl, ⟨A2, c2, rfl⟩, hown, hoff, hbs, hsz, hw⟩ := hrel
          have OW := Lib.hid hown
          have OFF := Lib.hid hoff
          have BS := Lib.hid hbs
          have LN := symsUp_len kind (4 * j + k)
          clear hown hoff hbs
          by_cases hlt2 : k < 4
          · have E := sym8_jk j hlt k hlt2
            rw [← F.out] at E
            have E := Lib.hid E
            have e : kind = 0 ∨ kind = 1 ∨ kind = 2 ∨ kind = 3 := by omega
            have ej : 4 * (j + 1) = 4 * j + 4 := by omega
            have hk0 : (0 : Int) ≤ (k : Int) := by omega
            have hk4 : (k : Int) < 4 := by omega
            clear F hk' k0 k3
            rcases e with rfl | rfl | rfl | rfl
            · cases hz : ((k : Int) != 0)
              · cases f
                · have S := Lib.hid (symsUp_yes (kind := 0) (m := 4 * j + k) (by rw [E.out]; simp [okB, ofB, inB]; simpa using hz))
                  go_wp2_with (at_builtin; refine wpList_append_own_at _ rfl _ _ 120 rfl w.heap.size 99 i0 (.agg #[.int .i64 0, .bool false]) 2 16 Try.underlying120 hi hz0 hz1 hz2 rfl (by decide) _ _ _ rfl (OW.out.alloc _) ⟨wr.heap.size, 0, none⟩ 1 1 [.int .i64 (k : Int), .bool false] rfl rfl ?c13 ?c23 ?c33 ?c43 ?c53 ?_; (case c13 => exact World.news_of_block (cs := #[.int .i64 (k : Int), .bool false]) (t := 99) (fr := (0, 0)) (heap_alloc_new wr _)); (case c23 => simp [Value.oneCell']); (case c33 => unfold maxLen; omega); (case c43 => omega); (case c53 => (have := Below.size hw; simp only [World.size_alloc]; omega)); intro v3 w3 hown3 hg3 hne3 hat3; simp only [World.size_alloc] at hat3; have GB3 := Lib.hid hg3; have OW3 := Lib.hid hown3; have BW3 := below_append hw OW.out hg3; have NB3 := Lib.hid hat3; clear hown3 hg3 hne3 hat3)
                  go_roundw
                  case rel =>
                    obtain ⟨A3, c3, rfl⟩ := owns_slice OW3.out
                    refine ⟨k + 1, by omega, by go_num, ?_⟩
                    rw [← Nat.add_assoc, S.out, List.length_append, flat_append, E.out]
                    refine ⟨⟨_, _, rfl⟩, OW3.out, OFF.out.next (by omega) NB3.out, Bools.grown (BS.out.step (by (repeat (first | with_reducible assumption | exact Below.refl _ _ | (refine Below.setCell ?_ (by first | exact Nat.le_refl _ | (simp; done) | omega | (simp; omega)) _) | (refine below_drewN ?_ _) | (refine Below.drew ?_) | (refine Below.alloc ?_ (by first | exact Nat.le_refl _ | (simp; done) | omega | (simp; omega)) _) | (refine then_ ?_ (by with_reducible assumption)) | assumption | (refine then_ ?_ (by assumption)))))) GB3.out (by simp only [World.size_alloc]; omega) OFF.out, ?_, BW3⟩
                    have := GB3.out.size
                    simp only [World.size_alloc] at this
                    omega
                  case measure => simp [intOf]; omega
                · have S := Lib.hid (symsUp_no (kind := 0) (m := 4 * j + k) (by rw [E.out]; simp [okB, ofB, inB]))
                  go_wp2_with fail
                  go_roundw
                  case rel =>
                    refine ⟨k + 1, by omega, by go_num, ?_⟩
                    rw [← Nat.add_assoc, S.out]
                    exact ⟨⟨_, _, rfl⟩, OW.out, OFF.out, BS.out, hsz, hw⟩
                  case measure => simp [intOf]; omega
              · cases f
                all_goals
                  have S := Lib.hid (symsUp_no (kind := 0) (m := 4 * j + k) (by rw [E.out]; simp [okB, ofB, inB]; first | done | (simpa using hz)))
                  go_wp2_with fail
                  go_roundw
                  case rel =>
                    refine ⟨k + 1, by omega, by go_num, ?_⟩
                    rw [← Nat.add_assoc, S.out]
                    exact ⟨⟨_, _, rfl⟩, OW.out, OFF.out, BS.out, hsz, hw⟩
                  case measure => simp [intOf]; omega
            · cases hz : ((k : Int) != 0)
              · have S := Lib.hid (symsUp_yes (kind := 1) (m := 4 * j + k) (by rw [E.out]; simp [okB, ofB, inB]; simpa using hz))
                go_wp2_with (at_builtin; refine wpList_append_own_at _ rfl _ _ 120 rfl w.heap.size 99 i0 (.agg #[.int .i64 0, .bool false]) 2 16 Try.underlying120 hi hz0 hz1 hz2 rfl (by decide) _ _ _ rfl (OW.out.alloc _) ⟨wr.heap.size, 0, none⟩ 1 1 [.int .i64 (k : Int), .bool f] rfl rfl ?c13 ?c23 ?c33 ?c43 ?c53 ?_; (case c13 => exact World.news_of_block (cs := #[.int .i64 (k : Int), .bool f]) (t := 99) (fr := (0, 0)) (heap_alloc_new wr _)); (case c23 => simp [Value.oneCell']); (case c33 => unfold maxLen; omega); (case c43 => omega); (case c53 => (have := Below.size hw; simp only [World.size_alloc]; omega)); intro v3 w3 hown3 hg3 hne3 hat3; simp only [World.size_alloc] at hat3; have GB3 := Lib.hid hg3; have OW3 := Lib.hid hown3; have BW3 := below_append hw OW.out hg3; have NB3 := Lib.hid hat3; clear hown3 hg3 hne3 hat3)
                go_roundw
                case rel =>
                  obtain ⟨A3, c3, rfl⟩ := owns_slice OW3.out
                  refine ⟨k + 1, by omega, by go_num, ?_⟩
                  rw [← Nat.add_assoc, S.out, List.length_append, flat_append, E.out]
                  refine ⟨⟨_, _, rfl⟩, OW3.out, OFF.out.next (by omega) NB3.out, Bools.grown (BS.out.step (by (repeat (first | with_reducible assumption | exact Below.refl _ _ | (refine Below.setCell ?_ (by first | exact Nat.le_refl _ | (simp; done) | omega | (simp; omega)) _) | (refine below_drewN ?_ _) | (refine Below.drew ?_) | (refine Below.alloc ?_ (by first | exact Nat.le_refl _ | (simp; done) | omega | (simp; omega)) _) | (refine then_ ?_ (by with_reducible assumption)) | assumption | (refine then_ ?_ (by assumption)))))) GB3.out (by simp only [World.size_alloc]; omega) OFF.out, ?_, BW3⟩
                  have := GB3.out.size
                  simp only [World.size_alloc] at this
                  omega
                case measure => simp [intOf]; omega
              · have S := Lib.hid (symsUp_no (kind := 1) (m := 4 * j + k) (by rw [E.out]; simp [okB, ofB, inB]; simpa using hz))
                go_wp2_with fail
                go_roundw
                case rel =>
                  refine ⟨k + 1, by omega, by go_num, ?_⟩
                  rw [← Nat.add_assoc, S.out]
                  exact ⟨⟨_, _, rfl⟩, OW.out, OFF.out, BS.out, hsz, hw⟩
                case measure => simp [intOf]; omega
            · cases hz : (((k : Int) % 2) != 0)
              · have S := Lib.hid (symsUp_yes (kind := 2) (m := 4 * j + k) (by rw [E.out]; simp [okB, ofB, inB]; simpa using hz))
                go_wp2_with (at_builtin; refine wpList_append_own_at _ rfl _ _ 120 rfl w.heap.size 99 i0 (.agg #[.int .i64 0, .bool false]) 2 16 Try.underlying120 hi hz0 hz1 hz2 rfl (by decide) _ _ _ rfl (OW.out.alloc _) ⟨wr.heap.size, 0, none⟩ 1 1 [.int .i64 (k : Int), .bool f] rfl rfl ?c13 ?c23 ?c33 ?c43 ?c53 ?_; (case c13 => exact World.news_of_block (cs := #[.int .i64 (k : Int), .bool f]) (t := 99) (fr := (0, 0)) (heap_alloc_new wr _)); (case c23 => simp [Value.oneCell']); (case c33 => unfold maxLen; omega); (case c43 => omega); (case c53 => (have := Below.size hw; simp only [World.size_alloc]; omega)); intro v3 w3 hown3 hg3 hne3 hat3; simp only [World.size_alloc] at hat3; have GB3 := Lib.hid hg3; have OW3 := Lib.hid hown3; have BW3 := below_append hw OW.out hg3; have NB3 := Lib.hid hat3; clear hown3 hg3 hne3 hat3)
                go_roundw
                case rel =>
                  obtain ⟨A3, c3, rfl⟩ := owns_slice OW3.out
                  refine ⟨k + 1, by omega, by go_num, ?_⟩
                  rw [← Nat.add_assoc, S.out, List.length_append, flat_append, E.out]
                  refine ⟨⟨_, _, rfl⟩, OW3.out, OFF.out.next (by omega) NB3.out, Bools.grown (BS.out.step (by (repeat (first | with_reducible assumption | exact Below.refl _ _ | (refine Below.setCell ?_ (by first | exact Nat.le_refl _ | (simp; done) | omega | (simp; omega)) _) | (refine below_drewN ?_ _) | (refine Below.drew ?_) | (refine Below.alloc ?_ (by first | exact Nat.le_refl _ | (simp; done) | omega | (simp; omega)) _) | (refine then_ ?_ (by with_reducible assumption)) | assumption | (refine then_ ?_ (by assumption)))))) GB3.out (by simp only [World.size_alloc]; omega) OFF.out, ?_, BW3⟩
                  have := GB3.out.size
                  simp only [World.size_alloc] at this
                  omega
                case measure => simp [intOf]; omega
              · have S := Lib.hid (symsUp_no (kind := 2) (m := 4 * j + k) (by rw [E.out]; simp [okB, ofB, inB]; simpa using hz))
                go_wp2_with fail
                go_roundw
                case rel =>
                  refine ⟨k + 1, by omega, by go_num, ?_⟩
                  rw [← Nat.add_assoc, S.out]
                  exact ⟨⟨_, _, rfl⟩, OW.out, OFF.out, BS.out, hsz, hw⟩
                case measure => simp [intOf]; omega
            · have S := Lib.hid (symsUp_yes (kind := 3) (m := 4 * j + k) (by rw [E.out]; simp [okB, ofB, inB]))
              go_wp2_with (at_builtin; refine wpList_append_own_at _ rfl _ _ 120 rfl w.heap.size 99 i0 (.agg #[.int .i64 0, .bool false]) 2 16 Try.underlying120 hi hz0 hz1 hz2 rfl (by decide) _ _ _ rfl (OW.out.alloc _) ⟨wr.heap.size, 0, none⟩ 1 1 [.int .i64 (k : Int), .bool f] rfl rfl ?c13 ?c23 ?c33 ?c43 ?c53 ?_; (case c13 => exact World.news_of_block (cs := #[.int .i64 (k : Int), .bool f]) (t := 99) (fr := (0, 0)) (heap_alloc_new wr _)); (case c23 => simp [Value.oneCell']); (case c33 => unfold maxLen; omega); (case c43 => omega); (case c53 => (have := Below.size hw; simp only [World.size_alloc]; omega)); intro v3 w3 hown3 hg3 hne3 hat3; simp only [World.size_alloc] at hat3; have GB3 := Lib.hid hg3; have OW3 := Lib.hid hown3; have BW3 := below_append hw OW.out hg3; have NB3 := Lib.hid hat3; clear hown3 hg3 hne3 hat3)
              go_roundw
              case rel =>
                obtain ⟨A3, c3, rfl⟩ := owns_slice OW3.out
                refine ⟨k + 1, by omega, by go_num, ?_⟩
                rw [← Nat.add_assoc, S.out, List.length_append, flat_append, E.out]
                refine ⟨⟨_, _, rfl⟩, OW3.out, OFF.out.next (by omega) NB3.out, Bools.grown (BS.out.step (by (repeat (first | with_reducible assumption | exact Below.refl _ _ | (refine Below.setCell ?_ (by first | exact Nat.le_refl _ | (simp; done) | omega | (simp; omega)) _) | (refine below_drewN ?_ _) | (refine Below.drew ?_) | (refine Below.alloc ?_ (by first | exact Nat.le_refl _ | (simp; done) | omega | (simp; omega)) _) | (refine then_ ?_ (by with_reducible assumption)) | assumption | (refine then_ ?_ (by assumption)))))) GB3.out (by simp only [World.size_alloc]; omega) OFF.out, ?_, BW3⟩
                have := GB3.out.size
                simp only [World.size_alloc] at this
                omega
              case measure => simp [intOf]; omega
          · obtain rfl : k = 4 := by omega
            go_wp2_with fail
            go_roundw
            case rel => exact ⟨j + 1, by omega, by go_num, ⟨_, _, rfl⟩, OW.out, OFF.out, BS.out, hsz, hw⟩
            case measure => simp [intOf]; omega
      · obtain rfl : j = 2 := by omega
        go_wp2
        go_ret
        exact ⟨_, _, rfl, OW.out, hw⟩
end Go.Proofs.Ytoafldgngbaddaa

/- Marks on rows of the call's own, and what is held: ints. -/
namespace Go.Proofs.Ytoafldgngbaddaa
open Go.RowKit
attribute [local go_sem] run_store_float run_store_complex

theorem owns_grown {w w' : World} {base : Nat} {E : TypeId} {sz : Nat} {v : Value} {n : Nat} {xs : List Value} {row : Option Nat} (h : w.ownsRow base E sz v n xs) (hg : w.grownBy w' row) (hne : ∀ g, row = some g → Off v g) : w'.ownsRow base E sz v n xs := by
  refine h.kept hg ?_
  cases hv : v.ownBlock with
  | none => exact .inl rfl
  | some k =>
    refine .inr fun e => ?_
    exact hne k e.symm hv
/-- what writes only the row of 'v' leaves what lies below v's base -/
theorem below_owned {w w' : World} {base : Nat} {E : TypeId} {sz : Nat} {v : Value} {n : Nat} {xs : List Value} (h : w.ownsRow base E sz v n xs) (hg : w.grownBy w' v.ownBlock) (hb : base ≤ w.heap.size) : Below base w w' :=
  (Below.refl _ _).grown hg hb (fun k hk => (h.lt k hk).1)
theorem off_of {w w1 : World} {base : Nat} {E E1 : TypeId} {sz sz1 : Nat} {v v1 : Value} {n n1 : Nat} {xs xs1 : List Value} (h : w.ownsRow base E sz v n xs) (h1 : w1.ownsRow w.heap.size E1 sz1 v1 n1 xs1) : ∀ g, v1.ownBlock = some g → Off v g := by
  intro g hg hv
  have a := (h1.lt g hg).1
  have b := (h.lt g hv).2
  omega
theorem off_of' {w w1 : World} {base B1 : Nat} {E E1 : TypeId} {sz sz1 : Nat} {v v1 : Value} {n n1 : Nat} {xs xs1 : List Value} (h : w.ownsRow base E sz v n xs) (h1 : w1.ownsRow B1 E1 sz1 v1 n1 xs1) (hB : w.heap.size ≤ B1) : ∀ g, v.ownBlock = some g → Off v1 g := by
  intro g hg hv
  have a := (h1.lt g hv).1
  have b := (h.lt g hg).2
  omega

def marksI (k : Int) (n : Nat) : List Int := (List.range n).map (fun (j : Nat) => k + (j : Int))
theorem marksI_len (k : Int) (n : Nat) : (marksI k n).length = n := by simp [marksI]
theorem marksI_at {k : Int} {n j : Nat} (h : j < n) : (marksI k n)[j]? = some (k + j) := by simp [marksI, h]

theorem Rd.int {w : World} {B : Nat} {A : Option Addr} {n k : Nat} {xs : List Int} (h : Rd intC 1 w B A n xs) (hk : k < n) :
    ∃ b off x, A = some ⟨b, off, none⟩ ∧ b < B ∧ xs[k]? = some x ∧ w.cell? ⟨b, off + k, none⟩ = some (.int .i64 x) := by
  obtain ⟨b, off, x, e, hb, hx, hc⟩ := h.at_ hk
  have := hc 0 _ rfl
  rw [Nat.mul_one, Nat.add_zero] at this
  exact ⟨b, off, x, e, hb, hx, this⟩

end Go.Proofs.Ytoafldgngbaddaa

/- Tools for regions that make memory. -/
namespace Go.Proofs.Ytoafldgngbaddaa
open Go.RowKit

theorem bcellz {W w1 : World} (hb : Below W.heap.size W w1) : (∀ b o, b < W.heap.size → w1.cell? ⟨b, o, none⟩ = W.cell? ⟨b, o, none⟩) ∧ (∀ b o, b < W.heap.size → w1.frozen? ⟨b, o, none⟩ = W.frozen? ⟨b, o, none⟩) ∧ (∀ b, b < W.heap.size → b < w1.heap.size) :=
  ⟨fun b o h => hb.cell (p := ⟨b, o, none⟩) h, fun b o h => hb.frozen (p := ⟨b, o, none⟩) h, fun _ h => Nat.lt_of_lt_of_le h hb.size⟩
theorem startSM (W : World) (n : Nat) : (∀ b o, b < W.heap.size → (W.drewN n).drew.cell? ⟨b, o, none⟩ = W.cell? ⟨b, o, none⟩) ∧ Below W.heap.size W (W.drewN n).drew := ⟨fun _ _ _ => rfl, (below_drewN (Below.refl _ _) n).drew⟩
theorem ofBel {W w2 : World} (hb : Below W.heap.size W w2) : (∀ b o, b < W.heap.size → w2.cell? ⟨b, o, none⟩ = W.cell? ⟨b, o, none⟩) ∧ Below W.heap.size W w2 := ⟨fun b o h => hb.cell (p := ⟨b, o, none⟩) h, hb⟩
theorem keepCF_then {w w1 : World} {p : Addr} {v : Value} {G : Prop} (hb : Below w.heap.size w w1) (h : w.cell? p = some v) (hf : w.frozen? p = false) (k : w1.cell? p = some v → w1.frozen? p = false → p.block < w1.heap.size → G) : G :=
  k (keepC h hb) (keepF h hf hb) (World.block_lt_of_cell? _ _ (keepC h hb))
theorem own_set {w : World} {base g : Nat} {E : TypeId} {sz : Nat} {v : Value} {n : Nat} {xs : List Value} (h : w.ownsRow base E sz v n xs) (ho : Off v g) (j : Nat) (u : Value) : (w.setCell ⟨g, j, none⟩ u).ownsRow base E sz v n xs :=
  owns_grown (row := some g) h (grown_set (World.grownBy.refl _ _) _ _) (fun k hk => by injection hk with hk; rw [← hk]; exact ho)
theorem off_lt {w : World} {base g : Nat} {E : TypeId} {sz : Nat} {v : Value} {n : Nat} {xs : List Value} (h : w.ownsRow base E sz v n xs) (hg : g < base) : Off v g := by
  intro hv
  have := (h.lt g hv).1
  omega
theorem off_ge {w : World} {base g : Nat} {E : TypeId} {sz : Nat} {v : Value} {n : Nat} {xs : List Value} (h : w.ownsRow base E sz v n xs) (hg : w.heap.size ≤ g) : Off v g := by
  intro hv
  have := (h.lt g hv).2
  omega
theorem keepG_lt {w w1 : World} {base n : Nat} {E : TypeId} {sz : Nat} {v u : Value} {xs : List Value} {p : Addr} (h : w.cell? p = some u) (ho : w.ownsRow base E sz v n xs) (hg : w.grownBy w1 v.ownBlock) (hlt : p.block < base) : w1.cell? p = some u :=
  hg.cell h (fun e => by have := (ho.lt _ e.symm).1; omega)
theorem keepG_off {w w1 : World} {v u : Value} {p : Addr} (h : w.cell? p = some u) (hg : w.grownBy w1 v.ownBlock) (hoff : Off v p.block) : w1.cell? p = some u :=
  hg.cell h (fun e => hoff e.symm)
/-- a picture in a variable of the law's own, its row the callee's -/
def BoxP (W : World) (s : Int) (ys : List Col) (p : Value) (w : World) : Prop :=
  ∃ g B d, p = .pointer (some ⟨g, 0, none⟩) ∧ w.cell? ⟨g, 0, none⟩ = some (.int .i64 s) ∧ w.cell? ⟨g, 1, none⟩ = some (.slice B ys.length d) ∧ W.heap.size ≤ g ∧
    w.ownsRow W.heap.size 25 3 (.slice B ys.length d) ys.length (flat colC ys) ∧ Off (.slice B ys.length d) g ∧ Below W.heap.size W w
/-- the variable was made ahead of the callee -/
theorem boxP_first {W w0 w : World} {s : Int} {ys : List Col} {B : Option Addr} {d g : Nat} {u v : Value} (ho : w.ownsRow w0.heap.size 25 3 (.slice B ys.length d) ys.length (flat colC ys)) (hle : W.heap.size ≤ w0.heap.size) (hg0 : W.heap.size ≤ g) (hg : g < w0.heap.size)
    (h0 : w.cell? ⟨g, 0, none⟩ = some u) (h1 : w.cell? ⟨g, 1, none⟩ = some v) (hb : Below W.heap.size W w) : BoxP W s ys (.pointer (some ⟨g, 0, none⟩)) ((w.setCell ⟨g, 0, none⟩ (.int .i64 s)).setCell ⟨g, 1, none⟩ (.slice B ys.length d)) := by
  have off := off_lt ho hg
  refine ⟨g, B, d, rfl, ?_, ?_, hg0, owns_mono (own_set (own_set ho off _ _) off _ _) hle, off, (hb.setCell hg0 _).setCell hg0 _⟩
  · simp [go_sem, h0]
  · simp [go_sem, h1]
end Go.Proofs.Ytoafldgngbaddaa
