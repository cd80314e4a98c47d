
/- '==' on symmetries; slices.Contains; MirrorsOfPicture, the program's. -/
import Derived.Test.YtchkcleenmoajaaSymP
import Derived.Test.YtchkcleenmoajaaM30
import Derived.Laws.StructEq
namespace Go.Proofs.Ytchkcleenmoajaa
open Go.RowKit

theorem symEq_fields (d : Nat) (t t' : Int) (f f' : Bool) (w : World) : (Op.eqFields (d + 1) #[.int .i64 t, .bool f] #[.int .i64 t', .bool f'] (Try.prog.fieldsOf 31).toList).run Try.prog w = .ok ((t, f) == (t', f')) w := by
  have h : ((t, f) == (t', f')) = (t == t' && f == f') := rfl
  rw [h]
  have k1 := fun wx d a b => run_equalIn_int (P := Try.prog) wx d 3 .i64 .i64 a b Try.underlying3
  have k2 := fun wx d a b => run_equalIn_bool' (P := Try.prog) wx d 4 a b Try.underlying4
  cases h1 : (t == t') <;> cases h2 : (f == f') <;> simp at h1 h2 <;> simp [go_sem, Try.underlying31, k1, k2, h1, h2]
theorem run_eql_sym (t t' : Int) (f f' : Bool) (w : World) : (binOp .eql 31 (.agg #[.int .i64 t, .bool f]) (.agg #[.int .i64 t', .bool f'])).run Try.prog w = .ok (.bool ((t, f) == (t', f'))) w := by
  rw [run_eql_struct]
  have ht : Try.prog.underlying 31 = some (.struct (Try.prog.fieldsOf 31)) := by kernel_rfl
  have hp : Try.prog.stoodInHeld 31 = false := by kernel_rfl
  rw [run_equalIn_agg (P := Try.prog) w 9999 31 _ _ ht hp, symEq_fields 9998]
  rfl

/-- whether a list holds a symmetry -/
def inS (l : List (Int × Bool)) (g : Int × Bool) : Bool := l.contains g
theorem contains_yes {l : List (Int × Bool)} {i : Nat} {g y : Int × Bool} (hx : l[i]? = some y) (h : (g == y) = true) : inS l g = true := by
  unfold inS
  rw [List.contains_iff_mem, beq_iff_eq.1 h]
  exact List.mem_of_getElem? hx
theorem contains_no {l : List (Int × Bool)} {g : Int × Bool} (h : ∀ (i : Nat) y, l[i]? = some y → (g == y) = false) : inS l g = false := by
  unfold inS
  cases hc : l.contains g
  · rfl
  · obtain ⟨i, hi⟩ := List.getElem?_of_mem (List.contains_iff_mem.1 hc)
    have := h i g hi
    simp at this

set_option maxRecDepth 100000 in
set_option maxHeartbeats 4000000 in
theorem indexSymE_any (t : Int) (f : Bool) (G : Option Addr) (m cc : Nat) (l : List (Int × Bool)) (w : World) (hm : m ≤ 1048576) (hl : Rd symC 2 w w.heap.size G m l) :
    Calls Try.prog 61 #[.slice G m cc, .agg #[.int .i64 t, .bool f]] w fun e w' => (∃ i : Int, e = .returned (.int .i64 i) ∧ decide (0 ≤ i) = inS l (t, f)) ∧ Below w.heap.size w w' := by
  go_enter Try.func61, Try.ntmps61
  go_wp2_with fail
  obtain ⟨W, hWe⟩ : ∃ W, W = w.alloc (Obj.cells #[.int .i64 t, .bool f] 31) := ⟨_, rfl⟩
  have hW : Below w.heap.size w W := by rw [hWe]; (repeat (first | with_reducible assumption | exact Below.refl _ _ | (refine Below.setCell ?_ (by first | exact Nat.le_refl _ | (simp; done) | omega | (simp; omega)) _) | (refine below_drewN ?_ _) | (refine Below.drew ?_) | (refine Below.alloc ?_ (by first | exact Nat.le_refl _ | (simp; done) | omega | (simp; omega)) _) | (refine then_ ?_ (by with_reducible assumption)) | assumption | (refine then_ ?_ (by assumption))))
  have zW : w.heap.size < W.heap.size := by rw [hWe]; simp
  have q0 : W.cell? ⟨w.heap.size, 0, none⟩ = some (.int .i64 t) := by rw [hWe]; simp [go_sem]
  have q1 : W.cell? ⟨w.heap.size, 1, none⟩ = some (.bool f) := by rw [hWe]; simp [go_sem]
  rw [← hWe]
  clear hWe
  go_loopw [5, 8] (fun _ i wr => ∃ k : Nat, k ≤ m ∧ i = .int .i64 k ∧ (∀ (i : Nat) y, i < k → l[i]? = some y → ((t, f) == y) = false) ∧ Below W.heap.size W wr) (fun _ i _ => m - (intOf i).toNat)
  case atStart => exact ⟨0, Nat.zero_le _, rfl, fun i y h => by omega, Below.refl _ _⟩
  case round =>
    obtain ⟨k, hk, rfl, hall, hw⟩ := hrel
    have HALL := Lib.hid hall
    clear hall
    have hB := then_ hW hw
    by_cases hlt : k < m
    · obtain ⟨b, off, t', f', rfl, hbl, hx, c0, c1⟩ := (hl.below hB).sym hlt
      have hki : (k : Int) < (m : Int) := by omega
      have hk0 : (0 : Int) ≤ (k : Int) := by omega
      have HX := Lib.hid hx
      clear hx
      have d0 := keepC q0 hw
      have d1 := keepC q1 hw
      have kc := fun wx => run_eql_sym t t' f f' wx
      obtain ⟨q, hq⟩ : ∃ q, q = ((t, f) == (t', f')) := ⟨_, rfl⟩
      rw [← hq] at kc
      have HQ := Lib.hid hq
      clear hq q0 q1
      cases q
      · go_wp2
        go_quiet (fail)
        go_wp2
        go_roundw
        case rel =>
          refine ⟨k + 1, by omega, by go_num, fun i y hi j1 => ?_, by (repeat (first | with_reducible assumption | exact Below.refl _ _ | (refine Below.setCell ?_ (by first | exact Nat.le_refl _ | (simp; done) | omega | (simp; omega)) _) | (refine below_drewN ?_ _) | (refine Below.drew ?_) | (refine Below.alloc ?_ (by first | exact Nat.le_refl _ | (simp; done) | omega | (simp; omega)) _) | (refine then_ ?_ (by with_reducible assumption)) | assumption | (refine then_ ?_ (by assumption))))⟩
          by_cases e : i = k
          · subst e
            rw [HX.out] at j1
            injection j1 with j1
            subst j1
            exact HQ.out.symm
          · exact HALL.out i y (by omega) j1
        case measure => simp [intOf]; omega
      · go_wp2
        go_quiet (fail)
        go_wp2
        go_ret
        exact ⟨⟨_, rfl, by rw [contains_yes HX.out HQ.out.symm]; simp⟩, by (repeat (first | with_reducible assumption | exact Below.refl _ _ | (refine Below.setCell ?_ (by first | exact Nat.le_refl _ | (simp; done) | omega | (simp; omega)) _) | (refine below_drewN ?_ _) | (refine Below.drew ?_) | (refine Below.alloc ?_ (by first | exact Nat.le_refl _ | (simp; done) | omega | (simp; omega)) _) | (refine then_ ?_ (by with_reducible assumption)) | assumption | (refine then_ ?_ (by assumption))))⟩
    · obtain rfl : k = m := by omega
      have hs := contains_no (l := l) (g := (t, f)) (fun i y h1 => HALL.out i y (by have := (List.getElem?_eq_some_iff.1 h1).1; have := hl.1; omega) h1)
      go_wp2
      go_ret
      exact ⟨⟨-1, rfl, by rw [hs]; rfl⟩, hB⟩

theorem containsSymE_any (t : Int) (f : Bool) (G : Option Addr) (m cc : Nat) (l : List (Int × Bool)) (w : World) (hm : m ≤ 1048576) (hl : Rd symC 2 w w.heap.size G m l) :
    Calls Try.prog 45 #[.slice G m cc, .agg #[.int .i64 t, .bool f]] w fun e w' => e = .returned (.bool (inS l (t, f))) ∧ Below w.heap.size w w' := by
  go_enter Try.func45, Try.ntmps45
  go_wp2_with (go_at_call 61; refine (indexSymE_any t f _ _ _ l _ hm (hl.step ?_)).mono ?_; (repeat (first | with_reducible assumption | exact Below.refl _ _ | (refine Below.setCell ?_ (by first | exact Nat.le_refl _ | (simp; done) | omega | (simp; omega)) _) | (refine below_drewN ?_ _) | (refine Below.drew ?_) | (refine Below.alloc ?_ (by first | exact Nat.le_refl _ | (simp; done) | omega | (simp; omega)) _) | (refine then_ ?_ (by with_reducible assumption)) | assumption | (refine then_ ?_ (by assumption)))); rintro e w1 ⟨⟨i, rfl, hi⟩, hb1⟩; have HI := Lib.hid hi; clear hi)
  go_ret
  exact ⟨by rw [← HI.out]; rfl, by (repeat (first | with_reducible assumption | exact Below.refl _ _ | (refine Below.setCell ?_ (by first | exact Nat.le_refl _ | (simp; done) | omega | (simp; omega)) _) | (refine below_drewN ?_ _) | (refine Below.drew ?_) | (refine Below.alloc ?_ (by first | exact Nat.le_refl _ | (simp; done) | omega | (simp; omega)) _) | (refine then_ ?_ (by with_reducible assumption)) | assumption | (refine then_ ?_ (by assumption))))⟩

set_option maxHeartbeats 1000000 in
theorem mirF_any (t : Int) (f : Bool) (b : Nat) (G : Option Addr) (m cc : Nat) (l : List (Int × Bool)) (w : World) (hm : m ≤ 1048576) (h0 : w.cell? ⟨b, 0, none⟩ = some (.slice G m cc)) (hl : Rd symC 2 w w.heap.size G m l) :
    Calls Try.prog 44 #[.agg #[.int .i64 t, .bool f], .pointer (some ⟨b, 0, none⟩)] w fun e w' => e = .returned (.bool (!(inS l (t, f)))) ∧ Below w.heap.size w w' := by
  have lb := World.block_lt_of_cell? _ _ h0
  dsimp only at lb
  have n1 : ¬ w.heap.size = b := by omega
  have n2 : ¬ b = w.heap.size := by omega
  go_enter Try.func44, Try.ntmps44
  go_wp2_with (go_at_call 45; refine (containsSymE_any t f _ _ _ l _ hm (hl.step ?_)).mono ?_; (repeat (first | with_reducible assumption | exact Below.refl _ _ | (refine Below.setCell ?_ (by first | exact Nat.le_refl _ | (simp; done) | omega | (simp; omega)) _) | (refine below_drewN ?_ _) | (refine Below.drew ?_) | (refine Below.alloc ?_ (by first | exact Nat.le_refl _ | (simp; done) | omega | (simp; omega)) _) | (refine then_ ?_ (by with_reducible assumption)) | assumption | (refine then_ ?_ (by assumption)))); rintro e w1 ⟨rfl, hb1⟩)
  go_ret
  exact ⟨rfl, by (repeat (first | with_reducible assumption | exact Below.refl _ _ | (refine Below.setCell ?_ (by first | exact Nat.le_refl _ | (simp; done) | omega | (simp; omega)) _) | (refine below_drewN ?_ _) | (refine Below.drew ?_) | (refine Below.alloc ?_ (by first | exact Nat.le_refl _ | (simp; done) | omega | (simp; omega)) _) | (refine then_ ?_ (by with_reducible assumption)) | assumption | (refine then_ ?_ (by assumption))))⟩

theorem allS_no {ls : List (Int × Bool)} {p : Int × Bool → Bool} {i : Nat} {x : Int × Bool} (hx : ls[i]? = some x) (h : p x = false) : ls.all p = false := by
  rw [List.all_eq_false]
  exact ⟨x, List.mem_of_getElem? hx, by simp [h]⟩
theorem allS_yes {ls : List (Int × Bool)} {p : Int × Bool → Bool} (h : ∀ (i : Nat) x, ls[i]? = some x → p x = true) : ls.all p = true := by
  rw [List.all_eq_true]
  intro x hx
  obtain ⟨i, hi⟩ := List.getElem?_of_mem hx
  exact h i x hi

set_option maxRecDepth 100000 in
set_option maxHeartbeats 4000000 in
theorem indexSymM_any (b : Nat) (G : Option Addr) (m cc : Nat) (l : List (Int × Bool)) (H : Option Addr) (p pc : Nat) (ls : List (Int × Bool)) (w : World) (hm : m ≤ 1048576) (hp : p ≤ 1048576) (h0 : w.cell? ⟨b, 0, none⟩ = some (.slice G m cc)) (hl : Rd symC 2 w w.heap.size G m l) (hs : Rd symC 2 w w.heap.size H p ls) :
    Calls Try.prog 60 #[.slice H p pc, .func (.func 44) #[] #[.pointer (some ⟨b, 0, none⟩)]] w fun e w' => (∃ i : Int, e = .returned (.int .i64 i) ∧ decide (0 ≤ i) = !(ls.all (inS l))) ∧ Below w.heap.size w w' := by
  go_enter Try.func60, Try.ntmps60
  go_wp2
  go_loopw [5, 8] (fun _ i wr => ∃ k : Nat, k ≤ p ∧ i = .int .i64 k ∧ (∀ (i : Nat) x, i < k → ls[i]? = some x → inS l x = true) ∧ Below w.heap.size w wr) (fun _ i _ => p - (intOf i).toNat)
  case atStart => exact ⟨0, Nat.zero_le _, rfl, fun i x h => by omega, Below.refl _ _⟩
  case round =>
    obtain ⟨k, hk, rfl, hall, hw⟩ := hrel
    have HALL := Lib.hid hall
    clear hall
    by_cases hlt : k < p
    · obtain ⟨bb, off, t, f, rfl, hbl, hx, c0, c1⟩ := (hs.below hw).sym hlt
      have hki : (k : Int) < (p : Int) := by omega
      have hk0 : (0 : Int) ≤ (k : Int) := by omega
      have HX := Lib.hid hx
      clear hx
      have d0 := keepC h0 hw
      have rl := hl.step hw
      cases hq : inS l (t, f)
      · go_wp2_with (go_at_call 44; refine (mirF_any t f b G m cc l _ hm (by assumption) (rl.step ?_)).mono ?_; (repeat (first | with_reducible assumption | exact Below.refl _ _ | (refine Below.setCell ?_ (by first | exact Nat.le_refl _ | (simp; done) | omega | (simp; omega)) _) | (refine below_drewN ?_ _) | (refine Below.drew ?_) | (refine Below.alloc ?_ (by first | exact Nat.le_refl _ | (simp; done) | omega | (simp; omega)) _) | (refine then_ ?_ (by with_reducible assumption)) | assumption | (refine then_ ?_ (by assumption)))); rintro e w1 ⟨rfl, hb1⟩; simp only [hq])
        go_ret
        exact ⟨⟨_, rfl, by rw [allS_no HX.out hq]; simp⟩, by (repeat (first | with_reducible assumption | exact Below.refl _ _ | (refine Below.setCell ?_ (by first | exact Nat.le_refl _ | (simp; done) | omega | (simp; omega)) _) | (refine below_drewN ?_ _) | (refine Below.drew ?_) | (refine Below.alloc ?_ (by first | exact Nat.le_refl _ | (simp; done) | omega | (simp; omega)) _) | (refine then_ ?_ (by with_reducible assumption)) | assumption | (refine then_ ?_ (by assumption))))⟩
      · go_wp2_with (go_at_call 44; refine (mirF_any t f b G m cc l _ hm (by assumption) (rl.step ?_)).mono ?_; (repeat (first | with_reducible assumption | exact Below.refl _ _ | (refine Below.setCell ?_ (by first | exact Nat.le_refl _ | (simp; done) | omega | (simp; omega)) _) | (refine below_drewN ?_ _) | (refine Below.drew ?_) | (refine Below.alloc ?_ (by first | exact Nat.le_refl _ | (simp; done) | omega | (simp; omega)) _) | (refine then_ ?_ (by with_reducible assumption)) | assumption | (refine then_ ?_ (by assumption)))); rintro e w1 ⟨rfl, hb1⟩; simp only [hq])
        go_roundw
        case rel =>
          refine ⟨k + 1, by omega, by go_num, fun i x hi j1 => ?_, by (repeat (first | with_reducible assumption | exact Below.refl _ _ | (refine Below.setCell ?_ (by first | exact Nat.le_refl _ | (simp; done) | omega | (simp; omega)) _) | (refine below_drewN ?_ _) | (refine Below.drew ?_) | (refine Below.alloc ?_ (by first | exact Nat.le_refl _ | (simp; done) | omega | (simp; omega)) _) | (refine then_ ?_ (by with_reducible assumption)) | assumption | (refine then_ ?_ (by assumption))))⟩
          by_cases e : i = k
          · subst e
            rw [HX.out] at j1
            injection j1 with j1
            subst j1
            exact hq
          · exact HALL.out i x (by omega) j1
        case measure => simp [intOf]; omega
    · obtain rfl : k = p := by omega
      have ht : ls.all (inS l) = true := allS_yes (fun i x h1 => HALL.out i x (by have := (List.getElem?_eq_some_iff.1 h1).1; have := hs.1; omega) h1)
      go_wp2
      go_ret
      exact ⟨⟨-1, rfl, by rw [ht]; rfl⟩, hw⟩

theorem containsSymM_any (b : Nat) (G : Option Addr) (m cc : Nat) (l : List (Int × Bool)) (H : Option Addr) (p pc : Nat) (ls : List (Int × Bool)) (w : World) (hm : m ≤ 1048576) (hp : p ≤ 1048576) (h0 : w.cell? ⟨b, 0, none⟩ = some (.slice G m cc)) (hl : Rd symC 2 w w.heap.size G m l) (hs : Rd symC 2 w w.heap.size H p ls) :
    Calls Try.prog 43 #[.slice H p pc, .func (.func 44) #[] #[.pointer (some ⟨b, 0, none⟩)]] w fun e w' => e = .returned (.bool (!(ls.all (inS l)))) ∧ Below w.heap.size w w' := by
  go_enter Try.func43, Try.ntmps43
  go_wp2_with (go_at_call 60; refine (indexSymM_any b G m cc l H p pc ls _ hm hp h0 hl hs).mono ?_; rintro e w1 ⟨⟨i, rfl, hi⟩, hb1⟩; have HI := Lib.hid hi; clear hi)
  go_ret
  exact ⟨by rw [← HI.out]; rfl, hb1⟩

/-- the last number below n that is fit, or st -/
def lastUp (ok : Nat → Bool) (st : Int) : Nat → Int
  | 0 => st
  | k + 1 => if ok k then (k : Int) else lastUp ok st k
theorem lastUp_yes {ok : Nat → Bool} {st : Int} {k : Nat} (h : ok k = true) : lastUp ok st (k + 1) = (k : Int) := by simp [lastUp, h]
theorem lastUp_no {ok : Nat → Bool} {st : Int} {k : Nat} (h : ok k = false) : lastUp ok st (k + 1) = lastUp ok st k := by simp [lastUp, h]
def okIn (l : List (Int × Bool)) (k : Nat) : Bool := (symsL (k : Int)).all (inS l)
def mirI (s : Int) (xs : List Col) : Int := if pictB s xs then lastUp (okIn (symsP s xs)) 0 4 else -1

set_option maxRecDepth 100000 in
set_option maxHeartbeats 8000000 in
theorem mirrorsOfPicture_any (s : Int) (A : Option Addr) (n c : Nat) (xs : List Col) (w : World) (hn : n ≤ maxLen) (ha : Rd colC 3 w w.heap.size A n xs) :
    Calls Try.prog 17 #[.agg #[.int .i64 s, .slice A n c]] w fun e w' => e = .returned (.int .i64 (mirI s xs)) ∧ Below w.heap.size w w' := by
  cases h2 : pictB s xs
  · have R := Lib.hid (show mirI s xs = -1 by simp [mirI, h2])
    go_enter Try.func17, Try.ntmps17
    go_wp2_with (go_at_call 12; refine (isPicture_any s A n c xs _ hn (ha.step ?_)).mono ?_; (repeat (first | with_reducible assumption | exact Below.refl _ _ | (refine Below.setCell ?_ (by first | exact Nat.le_refl _ | (simp; done) | omega | (simp; omega)) _) | (refine below_drewN ?_ _) | (refine Below.drew ?_) | (refine Below.alloc ?_ (by first | exact Nat.le_refl _ | (simp; done) | omega | (simp; omega)) _) | (refine then_ ?_ (by with_reducible assumption)) | assumption | (refine then_ ?_ (by assumption)))); rintro e w2 ⟨rfl, hb2⟩; simp only [h2])
    go_ret
    exact ⟨by rw [R.out]; rfl, by (repeat (first | with_reducible assumption | exact Below.refl _ _ | (refine Below.setCell ?_ (by first | exact Nat.le_refl _ | (simp; done) | omega | (simp; omega)) _) | (refine below_drewN ?_ _) | (refine Below.drew ?_) | (refine Below.alloc ?_ (by first | exact Nat.le_refl _ | (simp; done) | omega | (simp; omega)) _) | (refine then_ ?_ (by with_reducible assumption)) | assumption | (refine then_ ?_ (by assumption))))⟩
  · have R := Lib.hid (show mirI s xs = lastUp (okIn (symsP s xs)) 0 4 by simp [mirI, h2])
    obtain ⟨l, hle⟩ : ∃ l, l = symsP s xs := ⟨_, rfl⟩
    have h8 : l.length ≤ 1048576 := by rw [hle, ← keptUp_8]; exact Nat.le_trans (keptUp_len _ _ _) (by omega)
    have ki := fun A c w h => symsOfPicture_any s A n c xs w hn h
    rw [← hle] at ki R
    have KI := Lib.hid ki
    clear ki hle
    go_enter Try.func17, Try.ntmps17
    go_wp2_with (first
      | (go_at_call 12; refine (isPicture_any s A n c xs _ hn (ha.step ?_)).mono ?_; (repeat (first | with_reducible assumption | exact Below.refl _ _ | (refine Below.setCell ?_ (by first | exact Nat.le_refl _ | (simp; done) | omega | (simp; omega)) _) | (refine below_drewN ?_ _) | (refine Below.drew ?_) | (refine Below.alloc ?_ (by first | exact Nat.le_refl _ | (simp; done) | omega | (simp; omega)) _) | (refine then_ ?_ (by with_reducible assumption)) | assumption | (refine then_ ?_ (by assumption)))); rintro e w2 ⟨rfl, hb2⟩; simp only [h2]; have kc_0 := keepC (p := ⟨w.heap.size, 0, none⟩) (v := .int .i64 s) (by first | assumption | (simp [go_sem]; done) | (simp [go_sem, *]; done)) hb2; have kc_1 := keepC (p := ⟨w.heap.size, 1, none⟩) (v := .slice A n c) (by first | assumption | (simp [go_sem]; done) | (simp [go_sem, *]; done)) hb2; have lb_ := (show w.heap.size < _ from World.block_lt_of_cell? _ _ kc_0); have hW2 : Below w.heap.size w w2 := (by (repeat (first | with_reducible assumption | exact Below.refl _ _ | (refine Below.setCell ?_ (by first | exact Nat.le_refl _ | (simp; done) | omega | (simp; omega)) _) | (refine below_drewN ?_ _) | (refine Below.drew ?_) | (refine Below.alloc ?_ (by first | exact Nat.le_refl _ | (simp; done) | omega | (simp; omega)) _) | (refine then_ ?_ (by with_reducible assumption)) | assumption | (refine then_ ?_ (by assumption))))); have ra2 := ha.step hW2; clear hb2)
      | (go_at_call 15; refine (KI.out _ _ _ ra2).mono ?_; rintro e w3 ⟨G, d3, rfl, ho3, hb3⟩; have r3 := Rd.of_own symC_len rfl ho3; have hW3 := then_ hW2 hb3; clear ho3))
    obtain ⟨W, hWe⟩ : ∃ W, W = w3.alloc (Obj.cells #[.slice G l.length d3] 46) := ⟨_, rfl⟩
    have hW : Below w3.heap.size w3 W := by rw [hWe]; (repeat (first | with_reducible assumption | exact Below.refl _ _ | (refine Below.setCell ?_ (by first | exact Nat.le_refl _ | (simp; done) | omega | (simp; omega)) _) | (refine below_drewN ?_ _) | (refine Below.drew ?_) | (refine Below.alloc ?_ (by first | exact Nat.le_refl _ | (simp; done) | omega | (simp; omega)) _) | (refine then_ ?_ (by with_reducible assumption)) | assumption | (refine then_ ?_ (by assumption))))
    have zW : w3.heap.size < W.heap.size := by rw [hWe]; simp
    have q0 : W.cell? ⟨w3.heap.size, 0, none⟩ = some (.slice G l.length d3) := by rw [hWe]; simp [go_sem]
    have rW := r3.step hW
    have hWW := then_ hW3 hW
    rw [← hWe]
    clear hWe hW hW3 r3
    go_loopw [4, 5] (fun o i wr => ∃ k : Nat, k ≤ 4 ∧ i = .int .i64 k ∧ o = .int .i64 (lastUp (okIn l) 0 k) ∧ Below W.heap.size W wr) (fun _ i _ => 4 - (intOf i).toNat)
    case atStart => exact ⟨0, by omega, rfl, rfl, Below.refl _ _⟩
    case round =>
      obtain ⟨k, hk, rfl, rfl, hw⟩ := hrel
      by_cases hlt : k < 4
      · have hki : (k : Int) ≤ 3 := by omega
        have hk0 : (0 : Int) ≤ (k : Int) := by omega
        obtain ⟨q, hq⟩ : ∃ q, q = (symsL (k : Int)).all (inS l) := ⟨_, rfl⟩
        have HQ := Lib.hid hq
        have d0 := keepC q0 hw
        have rl := rW.step hw
        have hp : (symsL (k : Int)).length ≤ 1048576 := Nat.le_trans (symsUp_len _ _) (by omega)
        clear hq
        go_wp2_with fail
        refine (symsOf_any (k : Int) _).mono ?_
        rintro e w5 ⟨H, hc5, rfl, ho5, hb5⟩
        have r5 := Rd.of_own symC_len rfl ho5
        have e0 := keepC d0 hb5
        have rl5 := rl.step hb5
        clear ho5
        go_wp2_with fail
        refine (containsSymM_any w3.heap.size G l.length d3 l H _ hc5 (symsL (k : Int)) _ h8 hp e0 rl5 r5).mono ?_
        rw [← HQ.out]
        rintro e w6 ⟨rfl, hb6⟩
        have hB := then_ (then_ hw hb5) hb6
        cases q
        · have S := Lib.hid (lastUp_no (ok := okIn l) (st := 0) (k := k) HQ.out.symm)
          go_wp2
          go_roundw
          case rel => exact ⟨k + 1, by omega, by go_num, by rw [S.out], hB⟩
          case measure => simp [intOf]; omega
        · have S := Lib.hid (lastUp_yes (ok := okIn l) (st := 0) (k := k) HQ.out.symm)
          go_wp2
          go_roundw
          case rel => exact ⟨k + 1, by omega, by go_num, by rw [S.out], hB⟩
          case measure => simp [intOf]; omega
      · obtain rfl : k = 4 := by omega
        go_wp2
        go_ret
        exact ⟨by rw [R.out]; rfl, then_ hWW hw⟩
end Go.Proofs.Ytchkcleenmoajaa
