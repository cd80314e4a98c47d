/- Step · MirS · PicL · SameT · DrawPic2 · Has -/
import Derived.Test.YtchkcleenmoajaaTum
import Derived.Test.YtchkcleenmoajaaMirP
import Derived.Test.YtchkcleenmoajaaM30
import Derived.Deep.RegionLaw
import Derived.Test.YtchkcleenmoajaaSEq
import Derived.Test.YtchkcleenmoajaaDrawPic

/- isStep: the program's. -/
namespace Go.Proofs.Ytchkcleenmoajaa
open Go.RowKit
attribute [local go_sem] run_store_float run_store_complex

def stpB (x : Nat) : Bool := gtB x 0 && leB x 1132462080
theorem isStep_any (x : Nat) (w : World) :
    Calls Try.prog 30 #[.float .f32 x] w fun e w' => e = .returned (.bool (stpB x)) ∧ w = w' := by
  have r : stpB x = (gtB x 0 && leB x 1132462080) := rfl
  cases h1 : gtB x 0
  all_goals
    rw [h1] at r
    have e1 : (FloatKind.f32.format.order x 0 == some .gt) = gtB x 0 := rfl
    rw [h1] at e1
    have R := Lib.hid r
    clear r h1
    go_enter Try.func30, Try.ntmps30
    go_wp2
    go_ret
    exact ⟨by rw [R.out]; simp [leB, ordB, FloatKind.format], rfl⟩

end Go.Proofs.Ytchkcleenmoajaa

/- MirrorsOfPicture, the reference's; both are the same. -/
namespace Go.Proofs.Ytchkcleenmoajaa
open Go.RowKit

def okA (s : Int) (xs : List Col) (k : Nat) : Bool := pictB s xs && (symsL (k : Int)).all (keepB s xs)
def mirP (s : Int) (xs : List Col) : Int := lastUp (okA s xs) (-1) 4

theorem symsL_in3 : ∀ k : Nat, k < 4 → ∀ g ∈ symsL (k : Int), g ∈ symsL 3 := by decide
theorem symsL_ok : ∀ g ∈ symsL 3, inB g.1 0 3 = true := by decide
theorem inS_iff {l : List (Int × Bool)} {g : Int × Bool} : inS l g = true ↔ g ∈ l := by unfold inS; exact List.contains_iff_mem
theorem okIn_eq {s : Int} {xs : List Col} (h : pictB s xs = true) {k : Nat} (hk : k < 4) : okIn (symsP s xs) k = okA s xs k := by
  unfold okIn okA symsP
  rw [h, Bool.true_and, if_pos rfl, Bool.eq_iff_iff, List.all_eq_true, List.all_eq_true]
  constructor
  · intro h1 g hg
    exact (List.mem_filter.1 (inS_iff.1 (h1 g hg))).2
  · intro h1 g hg
    exact inS_iff.2 (List.mem_filter.2 ⟨symsL_in3 k hk g hg, h1 g hg⟩)
theorem okA_zero {s : Int} {xs : List Col} (h : pictB s xs = true) : okA s xs 0 = true := by
  obtain ⟨q, rfl, hp⟩ := pic_of h
  unfold okA
  rw [h, Bool.true_and, show symsL ((0 : Nat) : Int) = [(0, false)] by decide, List.all_cons, keep_id hp]
  rfl
theorem mirI_eq (s : Int) (xs : List Col) : mirI s xs = mirP s xs := by
  unfold mirI mirP
  cases h : pictB s xs
  · have e : ∀ k, okA s xs k = false := fun k => by unfold okA; rw [h]; rfl
    simp [lastUp, e]
  · rw [if_pos rfl]
    unfold lastUp lastUp lastUp lastUp lastUp
    rw [okIn_eq h (by omega), okIn_eq h (by omega), okIn_eq h (by omega), okIn_eq h (by omega), okA_zero h]
    rfl

/-- how far the inner loop has come -/
def allB (s : Int) (xs : List Col) (l : List (Int × Bool)) (j : Nat) : Bool := pictB s xs && (l.take j).all (keepB s xs)
theorem allB_zero (s : Int) (xs : List Col) (l : List (Int × Bool)) : allB s xs l 0 = pictB s xs := by simp [allB]
theorem allB_succ {s : Int} {xs : List Col} {l : List (Int × Bool)} {j : Nat} {g : Int × Bool} (hx : l[j]? = some g) : allB s xs l (j + 1) = (allB s xs l j && keepB s xs g) := by
  unfold allB
  rw [List.take_add_one, hx, List.all_append, Bool.and_assoc]
  simp

end Go.Proofs.Ytchkcleenmoajaa

/- Pictures in plain Lean: acting one after the other; what keeps the acted picture. -/
namespace Go.Proofs.Ytchkcleenmoajaa

theorem atK_act {q k : Nat} {xs : List Col} {g : Int × Bool} (hp : Pic q xs) (hg : inB g.1 0 3 = true) (hk : k < xs.length) : atK (actL g.1 g.2 ((q : Int) + 1) xs).2 (toN q k g) = atK xs k := by
  unfold atK
  rw [act_at hp hg hk]
theorem act_len {q : Nat} {xs : List Col} {g : Int × Bool} (hp : Pic q xs) (hg : inB g.1 0 3 = true) : (actL g.1 g.2 ((q : Int) + 1) xs).2.length = xs.length := by
  rw [(act_pic hp hg).1.2.1, hp.2.1]
/-- every cell comes from one -/
theorem from_cell {q k : Nat} {xs : List Col} {g : Int × Bool} (hp : Pic q xs) (hg : inB g.1 0 3 = true) (hk : k < xs.length) : ∃ j, j < xs.length ∧ toN q j g = k := by
  obtain ⟨j, h1, h2, _⟩ := act_at' hp hg hk
  exact ⟨j, h1, h2⟩
theorem to_lt {q k : Nat} {xs : List Col} {g : Int × Bool} (hp : Pic q xs) (hg : inB g.1 0 3 = true) (hk : k < xs.length) : toN q k g < xs.length := by
  rw [hp.2.1]
  exact (toN_ok hp.1 (by rw [← hp.2.1]; exact hk) hg).2
theorem same_self {q : Nat} {xs : List Col} (hp : Pic q xs) : sameP ((q : Int) + 1) xs ((q : Int) + 1) xs = true := (sameP_iff hp.2.2 hp.2.2 rfl).2 fun _ _ => rfl
theorem same_then {q : Nat} {xs : List Col} {g h : Int × Bool} (hp : Pic q xs) (hg : inB g.1 0 3 = true) (hh : inB h.1 0 3 = true) :
    sameP ((q : Int) + 1) (actL h.1 h.2 ((q : Int) + 1) (actL g.1 g.2 ((q : Int) + 1) xs).2).2 ((q : Int) + 1) (actL (thenP g.1 g.2 h.1 h.2).1 (thenP g.1 g.2 h.1 h.2).2 ((q : Int) + 1) xs).2 = true := by
  have hp1 := (act_pic hp hg).1
  have ht := then_in hg hh
  have l1 := act_len hp hg
  have l2 := act_len hp1 hh
  have l3 := act_len hp ht
  rw [sameP_iff (act_pic hp1 hh).1.2.2 (act_pic hp ht).1.2.2 (by omega)]
  intro k hk
  obtain ⟨j, hj, rfl⟩ := from_cell hp ht (show k < xs.length by omega)
  rw [atK_act hp ht hj, ← toN_then hp.1 (by rw [← hp.2.1]; exact hj) hg hh, atK_act hp1 hh (by rw [l1]; exact to_lt hp hg hj), atK_act hp hg hj]
theorem same_back {q : Nat} {xs : List Col} {g : Int × Bool} (hp : Pic q xs) (hg : inB g.1 0 3 = true) :
    sameP ((q : Int) + 1) (actL (backP g.1 g.2).1 (backP g.1 g.2).2 ((q : Int) + 1) (actL g.1 g.2 ((q : Int) + 1) xs).2).2 ((q : Int) + 1) xs = true := by
  have hp1 := (act_pic hp hg).1
  have hb := back_in hg
  have l1 := act_len hp hg
  have l2 := act_len hp1 hb
  rw [sameP_iff (act_pic hp1 hb).1.2.2 hp.2.2 (by omega)]
  intro k hk
  have hk' : k < xs.length := by omega
  have e : toN q (toN q k g) (backP g.1 g.2) = k := toN_back hp.1 (by rw [← hp.2.1]; exact hk') hg
  have := atK_act hp1 hb (k := toN q k g) (by rw [l1]; exact to_lt hp hg hk')
  rw [e] at this
  rw [this, atK_act hp hg hk']

theorem mem_symsP {q : Nat} {xs : List Col} {g : Int × Bool} (hp : Pic q xs) : g ∈ symsP ((q : Int) + 1) xs ↔ g ∈ symsL 3 ∧ keepB ((q : Int) + 1) xs g = true := by
  unfold symsP
  rw [pic_ok hp, if_pos rfl, List.mem_filter]
theorem in_all {g : Int × Bool} (h : inB g.1 0 3 = true) : g ∈ symsL 3 := by
  obtain ⟨n, hn, e⟩ := sym_num (f := g.2) h
  have e : sym8 n = g := e
  rw [← e]
  exact (show ∀ n : Nat, n < 8 → sym8 n ∈ symsL 3 by decide) n hn
theorem has_then {q : Nat} {xs : List Col} {g h : Int × Bool} (hp : Pic q xs) (hg : g ∈ symsP ((q : Int) + 1) xs) (hh : h ∈ symsP ((q : Int) + 1) xs) : inS (symsP ((q : Int) + 1) xs) (thenP g.1 g.2 h.1 h.2) = true := by
  rw [mem_symsP hp] at hg hh
  rw [inS_iff, mem_symsP hp]
  have h1 := symsL_ok g hg.1
  have h2 := symsL_ok h hh.1
  exact ⟨in_all (then_in h1 h2), keep_then hp h1 h2 hg.2 hh.2⟩
theorem has_id {q : Nat} {xs : List Col} (hp : Pic q xs) : inS (symsP ((q : Int) + 1) xs) (0, false) = true := by
  rw [inS_iff, mem_symsP hp]
  exact ⟨by decide, keep_id hp⟩
theorem lastUp_ok {ok : Nat → Bool} (h0 : ok 0 = true) : ∀ n, 0 < n → ∃ k, k < n ∧ lastUp ok (-1) n = (k : Int) ∧ ok k = true
  | 1, _ => ⟨0, by omega, lastUp_yes h0, h0⟩
  | n + 2, _ => by
    cases h : ok (n + 1)
    · obtain ⟨k, h1, h2, h3⟩ := lastUp_ok h0 (n + 1) (by omega)
      exact ⟨k, by omega, (lastUp_no h).trans h2, h3⟩
    · exact ⟨n + 1, by omega, lastUp_yes h, h⟩
theorem mir_ok {q : Nat} {xs : List Col} (hp : Pic q xs) : ∃ k : Nat, k < 4 ∧ mirI ((q : Int) + 1) xs = (k : Int) ∧ ∀ g ∈ symsL (k : Int), inS (symsP ((q : Int) + 1) xs) g = true := by
  rw [mirI_eq]
  obtain ⟨k, h1, h2, h3⟩ := lastUp_ok (okA_zero (pic_ok hp)) 4 (by omega)
  refine ⟨k, h1, h2, fun g hg => ?_⟩
  unfold okA at h3
  rw [Bool.and_eq_true] at h3
  rw [inS_iff, mem_symsP hp]
  exact ⟨symsL_in3 k h1 g hg, List.all_eq_true.1 h3.2 g hg⟩

/-! ### as many keep the acted picture -/
def conj (g k : Int × Bool) : Int × Bool := thenP g.1 g.2 (thenP k.1 k.2 (backP g.1 g.2).1 (backP g.1 g.2).2).1 (thenP k.1 k.2 (backP g.1 g.2).1 (backP g.1 g.2).2).2
theorem conj_in {g k : Int × Bool} (hg : inB g.1 0 3 = true) (hk : inB k.1 0 3 = true) : inB (conj g k).1 0 3 = true := then_in hg (then_in hk (back_in hg))
theorem conj_perm : ∀ n : Nat, n < 8 → ((symsL 3).map (conj (sym8 n))).Perm (symsL 3) := by decide
theorem keep_conj {q : Nat} {xs : List Col} {g k : Int × Bool} (hp : Pic q xs) (hg : inB g.1 0 3 = true) (hk : inB k.1 0 3 = true) :
    keepB ((q : Int) + 1) (actL g.1 g.2 ((q : Int) + 1) xs).2 k = keepB ((q : Int) + 1) xs (conj g k) := by
  have hp1 := (act_pic hp hg).1
  have l1 := act_len hp hg
  rw [Bool.eq_iff_iff, keep_iff hp1 hk, keep_iff hp (conj_in hg hk)]
  have key : ∀ j, j < xs.length → toN q (toN q j (conj g k)) g = toN q (toN q j g) k := by
    intro j hj
    have hj' : j < (q + 1) * (q + 1) := by rw [← hp.2.1]; exact hj
    have hb := back_in hg
    have ht := then_in (g := k) (h := backP g.1 g.2) hk hb
    have h1 := (toN_ok hp.1 hj' hg).2
    have h2 := (toN_ok hp.1 h1 hk).2
    unfold conj
    rw [← toN_then hp.1 hj' hg ht, ← toN_then hp.1 h1 hk hb]
    obtain ⟨i, hi, e⟩ := from_cell hp hg (show toN q (toN q j g) k < xs.length by rw [hp.2.1]; exact h2)
    rw [← e, toN_back hp.1 (by rw [← hp.2.1]; exact hi) hg]
  constructor
  · intro h j hj
    have h1 := h (toN q j g) (by rw [l1]; exact to_lt hp hg hj)
    rw [← key j hj, atK_act hp hg (to_lt hp (conj_in hg hk) hj), atK_act hp hg hj] at h1
    exact h1
  · intro h i hi
    obtain ⟨j, hj, rfl⟩ := from_cell hp hg (show i < xs.length by omega)
    rw [← key j hj, atK_act hp hg (to_lt hp (conj_in hg hk) hj), atK_act hp hg hj]
    exact h j hj
theorem filter_len {α : Type} {p : α → Bool} {l l' : List α} (h : l.Perm l') : (l.filter p).length = (l'.filter p).length := (h.filter p).length_eq
theorem count_act {q : Nat} {xs : List Col} {g : Int × Bool} (hp : Pic q xs) (hg : inB g.1 0 3 = true) : (symsP ((q : Int) + 1) (actL g.1 g.2 ((q : Int) + 1) xs).2).length = (symsP ((q : Int) + 1) xs).length := by
  have hp1 := (act_pic hp hg).1
  unfold symsP
  rw [pic_ok hp, pic_ok hp1, if_pos rfl, if_pos rfl]
  obtain ⟨n, hn, e⟩ := sym_num (f := g.2) hg
  have e : sym8 n = g := e
  have hperm := conj_perm n hn
  rw [e] at hperm
  have e1 : ((symsL 3).filter (keepB ((q : Int) + 1) (actL g.1 g.2 ((q : Int) + 1) xs).2)).length = ((symsL 3).filter (keepB ((q : Int) + 1) xs ∘ conj g)).length := by
    congr 1
    exact List.filter_congr fun k hk => keep_conj hp hg (symsL_ok k hk)
  have e2 : (((symsL 3).map (conj g)).filter (keepB ((q : Int) + 1) xs)).length = ((symsL 3).filter (keepB ((q : Int) + 1) xs ∘ conj g)).length := by
    rw [List.filter_map, List.length_map]
  exact e1.trans (e2.symm.trans (filter_len hperm))
end Go.Proofs.Ytchkcleenmoajaa

/- SameTumble of tumbles that are the same. -/
namespace Go.Proofs.Ytchkcleenmoajaa
open Go.RowKit
attribute [local go_sem] run_store_float run_store_complex

def cxE (p q : Pt) : Bool := eqB p.1 q.1 && eqB p.2 q.2
def bdE (b b' : Bd) : Bool := cxE b.1 b'.1 && cxE b.2 b'.2
end Go.Proofs.Ytchkcleenmoajaa

/- DrawPicture. -/
namespace Go.Proofs.Ytchkcleenmoajaa
open Go.RowKit
attribute [local go_sem] run_store_float run_store_complex

end Go.Proofs.Ytchkcleenmoajaa

/- laws.has, laws.big; ActPicture on a picture of a known size. -/
namespace Go.Proofs.Ytchkcleenmoajaa
open Go.RowKit

theorem bigS_any (A : Option Addr) (m c : Nat) (w : World) :
    Calls Try.prog 5 #[.slice A m c] w fun e w' => e = .returned (.bool (decide ((4096 : Int) < m))) ∧ w = w' := by
  go_enter Try.func5, Try.ntmps5
  go_wp2
  go_ret
  exact ⟨rfl, rfl⟩

set_option maxRecDepth 100000 in
set_option maxHeartbeats 4000000 in
theorem has_any (t : Int) (f : Bool) (G : Option Addr) (m cc : Nat) (l : List (Int × Bool)) (w : World) (hm : m ≤ 1048576) (hl : Rd symC 2 w w.heap.size G m l) :
    Calls Try.prog 14 #[.slice G m cc, .agg #[.int .i64 t, .bool f]] w fun e w' => e = .returned (.bool (inS l (t, f))) ∧ Below w.heap.size w w' := by
  go_enter Try.func14, Try.ntmps14
  go_wp2_with fail
  obtain ⟨W, hWe⟩ : ∃ W, W = w.alloc (Obj.cells #[.int .i64 t, .bool f] 31) := ⟨_, rfl⟩
  have hW : Below w.heap.size w W := by rw [hWe]; (repeat (first | with_reducible assumption | exact Below.refl _ _ | (refine Below.setCell ?_ (by first | exact Nat.le_refl _ | (simp; done) | omega | (simp; omega)) _) | (refine below_drewN ?_ _) | (refine Below.drew ?_) | (refine Below.alloc ?_ (by first | exact Nat.le_refl _ | (simp; done) | omega | (simp; omega)) _) | (refine then_ ?_ (by with_reducible assumption)) | assumption | (refine then_ ?_ (by assumption))))
  have zW : w.heap.size < W.heap.size := by rw [hWe]; simp
  have q0 : W.cell? ⟨w.heap.size, 0, none⟩ = some (.int .i64 t) := by rw [hWe]; simp [go_sem]
  have q1 : W.cell? ⟨w.heap.size, 1, none⟩ = some (.bool f) := by rw [hWe]; simp [go_sem]
  rw [← hWe]
  clear hWe
  go_loopw [5] (fun i wr => ∃ k : Nat, k ≤ m ∧ i = .int .i64 k ∧ (∀ (i : Nat) y, i < k → l[i]? = some y → ((t, f) == y) = false) ∧ Below W.heap.size W wr) (fun i _ => m - (intOf i).toNat)
  case atStart => exact ⟨0, Nat.zero_le _, rfl, fun i y h => by omega, Below.refl _ _⟩
  case round =>
    obtain ⟨k, hk, rfl, hall, hw⟩ := hrel
    have HALL := Lib.hid hall
    clear hall
    have hB := then_ hW hw
    by_cases hlt : k < m
    · obtain ⟨b, off, t', f', rfl, hbl, hx, c0, c1⟩ := (hl.below hB).sym hlt
      have hki : (k : Int) < (m : Int) := by omega
      have hk0 : (0 : Int) ≤ (k : Int) := by omega
      have HX := Lib.hid hx
      clear hx
      have d0 := keepC q0 hw
      have d1 := keepC q1 hw
      have kc := fun wx => run_eql_sym t' t f' f wx
      obtain ⟨q, hq⟩ : ∃ q, q = ((t', f') == (t, f)) := ⟨_, rfl⟩
      rw [← hq] at kc
      rw [BEq.comm] at hq
      have HQ := Lib.hid hq
      clear hq q0 q1
      cases q
      · go_wp2
        go_quiet (fail)
        go_wp2
        go_roundw
        case rel =>
          refine ⟨k + 1, by omega, by go_num, fun i y hi j1 => ?_, by (repeat (first | with_reducible assumption | exact Below.refl _ _ | (refine Below.setCell ?_ (by first | exact Nat.le_refl _ | (simp; done) | omega | (simp; omega)) _) | (refine below_drewN ?_ _) | (refine Below.drew ?_) | (refine Below.alloc ?_ (by first | exact Nat.le_refl _ | (simp; done) | omega | (simp; omega)) _) | (refine then_ ?_ (by with_reducible assumption)) | assumption | (refine then_ ?_ (by assumption))))⟩
          by_cases e : i = k
          · subst e
            rw [HX.out] at j1
            injection j1 with j1
            subst j1
            exact HQ.out.symm
          · exact HALL.out i y (by omega) j1
        case measure => simp [intOf]; omega
      · have hs := Lib.hid (contains_yes HX.out HQ.out.symm)
        go_wp2
        go_quiet (fail)
        go_wp2
        go_ret
        exact ⟨by rw [hs.out]; rfl, by (repeat (first | with_reducible assumption | exact Below.refl _ _ | (refine Below.setCell ?_ (by first | exact Nat.le_refl _ | (simp; done) | omega | (simp; omega)) _) | (refine below_drewN ?_ _) | (refine Below.drew ?_) | (refine Below.alloc ?_ (by first | exact Nat.le_refl _ | (simp; done) | omega | (simp; omega)) _) | (refine then_ ?_ (by with_reducible assumption)) | assumption | (refine then_ ?_ (by assumption))))⟩
    · obtain rfl : k = m := by omega
      have hs := Lib.hid (contains_no (l := l) (g := (t, f)) (fun i y h1 => HALL.out i y (by have := (List.getElem?_eq_some_iff.1 h1).1; have := hl.1; omega) h1))
      go_wp2
      go_ret
      exact ⟨by rw [hs.out]; rfl, hB⟩

theorem actPicC {q : Nat} {xs : List Col} {t : Int} {f : Bool} (hp : Pic q xs) (hg : inB t 0 3 = true) (A : Option Addr) (c : Nat) (w : World) (ha : Rd colC 3 w w.heap.size A xs.length xs) :
    Calls Try.prog 11 #[.agg #[.int .i64 t, .bool f], .agg #[.int .i64 ((q : Int) + 1), .slice A xs.length c]] w fun e w' => ∃ B d, e = .returned (.agg #[.int .i64 ((q : Int) + 1), .slice B (actL t f ((q : Int) + 1) xs).2.length d]) ∧ Rd colC 3 w' w'.heap.size B (actL t f ((q : Int) + 1) xs).2.length (actL t f ((q : Int) + 1) xs).2 ∧ Below w.heap.size w w' := by
  have hn : xs.length ≤ maxLen := by
    have h25 : (q + 1) * (q + 1) ≤ 8 * 8 := Nat.mul_le_mul (by have := hp.1; omega) (by have := hp.1; omega)
    rw [hp.2.1]; unfold maxLen; omega
  refine (actPicture_any t f _ A _ c xs w hn ha).mono ?_
  rintro e w' ⟨B, d, rfl, ho, hb⟩
  have h1 := (act_pic (g := (t, f)) hp hg).2
  dsimp only at h1
  rw [h1]
  exact ⟨B, d, rfl, Rd.of_own colC_len rfl ho, hb⟩
theorem pic_len {q : Nat} {xs : List Col} (hp : Pic q xs) : xs.length ≤ 64 := by
  have h25 : (q + 1) * (q + 1) ≤ 8 * 8 := Nat.mul_le_mul (by have := hp.1; omega) (by have := hp.1; omega)
  rw [hp.2.1]; omega
end Go.Proofs.Ytchkcleenmoajaa
