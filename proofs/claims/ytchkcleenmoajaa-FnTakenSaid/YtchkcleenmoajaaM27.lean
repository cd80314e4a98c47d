/- SpreadP · SpreadS · Spread -/
import Derived.Test.YtchkcleenmoajaaM23
import Derived.Test.YtchkcleenmoajaaIsPic
import Derived.Test.YtchkcleenmoajaaM15
import Derived.Test.YtchkcleenmoajaaAct
import Derived.Deep.AppendLies
import Derived.Deep.RegionLaw

/- SpreadPicture: what it computes; plain facts. -/
namespace Go.Proofs.Ytchkcleenmoajaa
open Go.RowKit
attribute [local go_sem] run_store_float run_store_complex

def spreadUp (kind s : Int) (xs : List Col) (k : Nat) : List Col := (List.range k).map (fun (i : Nat) => xs.getD (firstI kind s (i : Int)).toNat (0, 0, 0))
def spreadL (kind s : Int) (xs : List Col) : Int × List Col := if inB kind 0 3 && pictB s xs then (s, spreadUp kind s xs xs.length) else (0, [])
def spreadOk (kind s : Int) (xs : List Col) : Bool := inB kind 0 3 && pictB s xs
theorem spreadUp_len (kind s : Int) (xs : List Col) (k : Nat) : (spreadUp kind s xs k).length = k := by simp [spreadUp]
theorem spreadUp_succ {kind s : Int} {xs : List Col} {k q : Nat} {x : Col} (hq : firstI kind s k = (q : Int)) (hx : xs[q]? = some x) : spreadUp kind s xs (k + 1) = spreadUp kind s xs k ++ [x] := by
  unfold spreadUp
  rw [List.range_succ, List.map_append]
  simp only [List.map_cons, List.map_nil]
  rw [hq, Int.toNat_natCast, List.getD_eq_getElem?_getD, hx]; rfl
theorem symsL_mem {kind : Int} {g : Int × Bool} (h : g ∈ symsL kind) : ∃ k, k < 8 ∧ g = sym8 k := by
  unfold symsL symsUp at h
  have h1 := (List.mem_filter.1 h).1
  obtain ⟨k, hk, e⟩ := List.mem_map.1 h1
  exact ⟨k, by simpa using hk, e.symm⟩
theorem firstI_bd {kind s cell : Int} (h : okCell s cell = true) : 0 ≤ firstI kind s cell ∧ firstI kind s cell ≤ cell := by
  unfold firstI firstL
  have h0 := okCell_bd h
  have : ∀ (l : List (Int × Bool)), (∀ g ∈ l, inB g.1 0 3 = true) → ∀ o : Int, 0 ≤ o → o ≤ cell → 0 ≤ l.foldl (fun o g => if cellV s cell g.1 g.2 < o then cellV s cell g.1 g.2 else o) o ∧ l.foldl (fun o g => if cellV s cell g.1 g.2 < o then cellV s cell g.1 g.2 else o) o ≤ cell := by
    intro l
    induction l with
    | nil => intro _ o a b; exact ⟨a, b⟩
    | cons g l ih =>
      intro hl o a b
      refine ih (fun g' hg' => hl g' (List.mem_cons_of_mem _ hg')) _ ?_ ?_
      · have hv : cellV s cell g.1 g.2 = cellI s cell g.1 g.2 := by
          have := hl g (List.mem_cons_self ..)
          simp [cellV, h, this]
        have := (cellI_bd h g.1 g.2).1
        dsimp only; split <;> omega
      · dsimp only; split <;> omega
  refine this _ (fun g hg => ?_) cell h0.2.2.1 (Int.le_refl _)
  obtain ⟨k, hk, rfl⟩ := symsL_mem (List.mem_of_mem_take hg)
  exact sym8_t k hk

theorem ofBel2 {w2 w' : World} (hb : Below w2.heap.size w2 w') : (∀ b o, b < w2.heap.size → w'.cell? ⟨b, o, none⟩ = w2.cell? ⟨b, o, none⟩) ∧ Below w2.heap.size w2 w' := ⟨fun b o h => hb.cell (p := ⟨b, o, none⟩) h, hb⟩
theorem keepG_fr {w w1 : World} {base n : Nat} {E : TypeId} {sz : Nat} {v : Value} {xs : List Value} {p : Addr} (h : w.frozen? p = false) (ho : w.ownsRow base E sz v n xs) (hg : w.grownBy w1 v.ownBlock) (hlt : p.block < base) (hs : p.block < w.heap.size) : w1.frozen? p = false :=
  (World.frozen?_of_block (hg.block p.block hs (fun e => by have := (ho.lt _ e.symm).1; omega))).trans h

end Go.Proofs.Ytchkcleenmoajaa

/- SpreadPicture, the reference's. -/
namespace Go.Proofs.Ytchkcleenmoajaa
open Go.RowKit
attribute [local go_sem] run_store_float run_store_complex

end Go.Proofs.Ytchkcleenmoajaa

/- SpreadPicture, the program's. -/
namespace Go.Proofs.Ytchkcleenmoajaa
open Go.RowKit
attribute [local go_sem] run_store_float run_store_complex

set_option maxRecDepth 100000 in
set_option maxHeartbeats 8000000 in
theorem spreadPicture_any (kind s : Int) (A : Option Addr) (n c : Nat) (xs : List Col) (w : World) (hn : n ≤ maxLen) (ha : Rd colC 3 w w.heap.size A n xs) :
    Calls Try.prog 16 #[.int .i64 kind, .agg #[.int .i64 s, .slice A n c]] w fun e w' => ∃ B d, e = .returned (.tuple #[.agg #[.int .i64 (spreadL kind s xs).1, .slice B (spreadL kind s xs).2.length d], .bool (spreadOk kind s xs)]) ∧ w'.ownsRow w.heap.size 27 3 (.slice B (spreadL kind s xs).2.length d) (spreadL kind s xs).2.length (flat colC (spreadL kind s xs).2) ∧ Below w.heap.size w w' := by
  cases h1 : inB kind 0 3
  · have R := Lib.hid (show spreadL kind s xs = (0, []) ∧ spreadOk kind s xs = false by simp [spreadL, spreadOk, h1])
    go_enter Try.func16, Try.ntmps16
    go_wp2_with (go_at_call 27; refine (isKind_any _ _).mono ?_; rintro e w' ⟨rfl, rfl⟩; simp only [h1])
    exact bodyPost_ret (v := .tuple #[.agg #[.int .i64 0, .slice none 0 0], .bool false]) (by simp [results, Try.results16, go_sem, *]) rfl ⟨none, 0, by rw [R.out.1, R.out.2]; rfl, by rw [R.out.1]; exact ⟨rfl, .inl ⟨rfl, rfl⟩⟩, by (repeat (first | with_reducible assumption | exact Below.refl _ _ | (refine Below.setCell ?_ (by first | exact Nat.le_refl _ | (simp; done) | omega | (simp; omega)) _) | (refine below_drewN ?_ _) | (refine Below.drew ?_) | (refine Below.alloc ?_ (by first | exact Nat.le_refl _ | (simp; done) | omega | (simp; omega)) _) | (refine then_ ?_ (by with_reducible assumption)) | assumption | (refine then_ ?_ (by assumption))))⟩
  · cases h2 : pictB s xs
    · have R := Lib.hid (show spreadL kind s xs = (0, []) ∧ spreadOk kind s xs = false by simp [spreadL, spreadOk, h2])
      go_enter Try.func16, Try.ntmps16
      go_wp2_with (first
        | (go_at_call 27; refine (isKind_any _ _).mono ?_; rintro e w' ⟨rfl, rfl⟩; simp only [h1])
        | (go_at_call 12; refine (isPicture_any s A n c xs _ hn (ha.step ?_)).mono ?_; (repeat (first | with_reducible assumption | exact Below.refl _ _ | (refine Below.setCell ?_ (by first | exact Nat.le_refl _ | (simp; done) | omega | (simp; omega)) _) | (refine below_drewN ?_ _) | (refine Below.drew ?_) | (refine Below.alloc ?_ (by first | exact Nat.le_refl _ | (simp; done) | omega | (simp; omega)) _) | (refine then_ ?_ (by with_reducible assumption)) | assumption | (refine then_ ?_ (by assumption)))); rintro e w2 ⟨rfl, hb2⟩; simp only [h2]; have kf1_0 := keepF (p := ⟨w.heap.size + 1, 0, none⟩) (v := .int .i64 0) (by first | assumption | (simp [go_sem]; done) | (simp [go_sem, *]; done)) (by first | assumption | (simp [go_sem]; done) | (simp [go_sem, *]; done)) hb2; have kf1_1 := keepF (p := ⟨w.heap.size + 1, 1, none⟩) (v := .slice none 0 0) (by first | assumption | (simp [go_sem]; done) | (simp [go_sem, *]; done)) (by first | assumption | (simp [go_sem]; done) | (simp [go_sem, *]; done)) hb2; have kc1_0 := keepC (p := ⟨w.heap.size + 1, 0, none⟩) (v := .int .i64 0) (by first | assumption | (simp [go_sem]; done) | (simp [go_sem, *]; done)) hb2; have kc1_1 := keepC (p := ⟨w.heap.size + 1, 1, none⟩) (v := .slice none 0 0) (by first | assumption | (simp [go_sem]; done) | (simp [go_sem, *]; done)) hb2; have lb1_ := (show w.heap.size + 1 < _ from World.block_lt_of_cell? _ _ kc1_0)))
      exact bodyPost_ret (v := .tuple #[.agg #[.int .i64 0, .slice none 0 0], .bool false]) (by simp [results, Try.results16, go_sem, *]) rfl ⟨none, 0, by rw [R.out.1, R.out.2]; rfl, by rw [R.out.1]; exact ⟨rfl, .inl ⟨rfl, rfl⟩⟩, by (repeat (first | with_reducible assumption | exact Below.refl _ _ | (refine Below.setCell ?_ (by first | exact Nat.le_refl _ | (simp; done) | omega | (simp; omega)) _) | (refine below_drewN ?_ _) | (refine Below.drew ?_) | (refine Below.alloc ?_ (by first | exact Nat.le_refl _ | (simp; done) | omega | (simp; omega)) _) | (refine then_ ?_ (by with_reducible assumption)) | assumption | (refine then_ ?_ (by assumption))))⟩
    · have hl := pict_bd h2
      have hn64 : n ≤ 64 := by have := ha.1; omega
      have hss : s * s = (n : Int) := by have := ha.1; have := hl.2.2.2; omega
      have R := Lib.hid (show spreadL kind s xs = (s, spreadUp kind s xs n) ∧ spreadOk kind s xs = true by simp [spreadL, spreadOk, h1, h2, ha.1])
      have HL := Lib.hid ha.1
      obtain ⟨hl1, hl2, hl3, hl4⟩ := hl
      have SS := Lib.hid hss
      clear hl4 hss
      obtain ⟨i0, hi, hz0, hz1, hz2⟩ := info_parts infoCol
      go_enter Try.func16, Try.ntmps16
      go_wp2_with (first
        | (go_at_call 27; refine (isKind_any _ _).mono ?_; rintro e w' ⟨rfl, rfl⟩; simp only [h1])
        | (go_at_call 12; refine (isPicture_any s A n c xs _ hn (ha.step ?_)).mono ?_; (repeat (first | with_reducible assumption | exact Below.refl _ _ | (refine Below.setCell ?_ (by first | exact Nat.le_refl _ | (simp; done) | omega | (simp; omega)) _) | (refine below_drewN ?_ _) | (refine Below.drew ?_) | (refine Below.alloc ?_ (by first | exact Nat.le_refl _ | (simp; done) | omega | (simp; omega)) _) | (refine then_ ?_ (by with_reducible assumption)) | assumption | (refine then_ ?_ (by assumption)))); rintro e w2 ⟨rfl, hb2⟩; simp only [h2]; have kf1_0 := keepF (p := ⟨w.heap.size + 1, 0, none⟩) (v := .int .i64 0) (by first | assumption | (simp [go_sem]; done) | (simp [go_sem, *]; done)) (by first | assumption | (simp [go_sem]; done) | (simp [go_sem, *]; done)) hb2; have kf1_1 := keepF (p := ⟨w.heap.size + 1, 1, none⟩) (v := .slice none 0 0) (by first | assumption | (simp [go_sem]; done) | (simp [go_sem, *]; done)) (by first | assumption | (simp [go_sem]; done) | (simp [go_sem, *]; done)) hb2; have kc1_0 := keepC (p := ⟨w.heap.size + 1, 0, none⟩) (v := .int .i64 0) (by first | assumption | (simp [go_sem]; done) | (simp [go_sem, *]; done)) hb2; have kc1_1 := keepC (p := ⟨w.heap.size + 1, 1, none⟩) (v := .slice none 0 0) (by first | assumption | (simp [go_sem]; done) | (simp [go_sem, *]; done)) hb2; have lb1_ := (show w.heap.size + 1 < _ from World.block_lt_of_cell? _ _ kc1_0); have kc_0 := keepC (p := ⟨w.heap.size, 0, none⟩) (v := .int .i64 s) (by first | assumption | (simp [go_sem]; done) | (simp [go_sem, *]; done)) hb2; have kc_1 := keepC (p := ⟨w.heap.size, 1, none⟩) (v := .slice A n c) (by first | assumption | (simp [go_sem]; done) | (simp [go_sem, *]; done)) hb2; have lb_ := (show w.heap.size < _ from World.block_lt_of_cell? _ _ kc_0)))
      have hW2 : Below w.heap.size w w2 := by (repeat (first | with_reducible assumption | exact Below.refl _ _ | (refine Below.setCell ?_ (by first | exact Nat.le_refl _ | (simp; done) | omega | (simp; omega)) _) | (refine below_drewN ?_ _) | (refine Below.drew ?_) | (refine Below.alloc ?_ (by first | exact Nat.le_refl _ | (simp; done) | omega | (simp; omega)) _) | (refine then_ ?_ (by with_reducible assumption)) | assumption | (refine then_ ?_ (by assumption))))
      have ra : Rd colC 3 w2 w2.heap.size A n xs := ha.step hW2
      have p0 := kc_0
      have p1 := kc_1
      have lp := World.block_lt_of_cell? _ _ p0
      clear hb2
      obtain ⟨W, hWe⟩ : ∃ W, W = w2.alloc (Obj.cells #[.int .i64 s, .slice none 0 0] 40) := ⟨_, rfl⟩
      have hW : Below w2.heap.size w2 W := by rw [hWe]; (repeat (first | with_reducible assumption | exact Below.refl _ _ | (refine Below.setCell ?_ (by first | exact Nat.le_refl _ | (simp; done) | omega | (simp; omega)) _) | (refine below_drewN ?_ _) | (refine Below.drew ?_) | (refine Below.alloc ?_ (by first | exact Nat.le_refl _ | (simp; done) | omega | (simp; omega)) _) | (refine then_ ?_ (by with_reducible assumption)) | assumption | (refine then_ ?_ (by assumption))))
      have zW : w2.heap.size < W.heap.size := by rw [hWe]; simp
      have x0 : W.cell? ⟨w2.heap.size, 0, none⟩ = some (.int .i64 s) := by rw [hWe]; simp [go_sem]
      have x1 : W.cell? ⟨w2.heap.size, 1, none⟩ = some (.slice none 0 0) := by rw [hWe]; simp [go_sem]
      have xf : W.frozen? ⟨w2.heap.size, 1, none⟩ = false := by rw [hWe]; simp [go_sem]
      rw [← hWe]
      clear hWe
      go_loopw [23] (fun i wr => ∃ (k : Nat) (O : Option Addr) (C : Nat), k ≤ n ∧ i = .int .i64 k ∧ wr.cell? ⟨w2.heap.size, 0, none⟩ = some (.int .i64 s) ∧ wr.cell? ⟨w2.heap.size, 1, none⟩ = some (.slice O k C) ∧ wr.frozen? ⟨w2.heap.size, 1, none⟩ = false ∧ wr.ownsRow W.heap.size 27 3 (.slice O k C) k (flat colC (spreadUp kind s xs k)) ∧ W.heap.size ≤ wr.heap.size ∧ Below w2.heap.size w2 wr) (fun i _ => n - (intOf i).toNat)
      case atStart => exact ⟨0, none, 0, Nat.zero_le _, rfl, x0, x1, xf, ⟨rfl, .inl ⟨rfl, rfl⟩⟩, Nat.le_refl _, hW⟩
      case round =>
        clear x0 x1 xf hW
        obtain ⟨k, O, C, hk, rfl, x0, x1, xf, hown, hsz, hw⟩ := hrel
        have OW := Lib.hid hown
        clear hown
        have kc_0 := keepC (p := ⟨w.heap.size, 0, none⟩) (v := .int .i64 s) (by first | assumption | (simp [go_sem]; done) | (simp [go_sem, *]; done)) hw; have kc_1 := keepC (p := ⟨w.heap.size, 1, none⟩) (v := .slice A n c) (by first | assumption | (simp [go_sem]; done) | (simp [go_sem, *]; done)) hw; have lb_ := (show w.heap.size < _ from World.block_lt_of_cell? _ _ kc_0)
        by_cases hlt : k < n
        · have hok : okCell s k = true := by
            have := SS.out
            unfold okCell inB
            simp only [Bool.and_eq_true, decide_eq_true_eq]
            omega
          have hfb := firstI_bd (kind := kind) hok
          obtain ⟨q, hq⟩ := Int.eq_ofNat_of_zero_le hfb.1
          have hqn : q < n := by omega
          obtain ⟨b, off, r, g, l, rfl, hbl, hx, c0, c1, c2⟩ := ra.col hqn
          have S := Lib.hid (spreadUp_succ hq hx)
          have FV := Lib.hid hq
          have hki : (k : Int) < (n : Int) := by omega
          have hk0 : (0 : Int) ≤ (k : Int) := by omega
          have hqi : (q : Int) < (n : Int) := by omega
          have hq0 : (0 : Int) ≤ (q : Int) := by omega
          have c0 := keepC c0 hw
          have c1 := keepC c1 hw
          have c2 := keepC c2 hw
          have lbb := World.block_lt_of_cell? _ _ c0
          dsimp only at lbb
          clear hx hok hfb hq
          go_wp2_with fail
          go_region_law ((first
            | (go_simp; go_at_call 42; refine (firstCell_any _ _ _ _).mono ?_; rintro e w5 ⟨rfl, hb5⟩; simp only [FV.out]; have hB5 : Below wr.heap.size wr w5 := (by (repeat (first | with_reducible assumption | exact Below.refl _ _ | (refine Below.setCell ?_ (by first | exact Nat.le_refl _ | (simp; done) | omega | (simp; omega)) _) | (refine below_drewN ?_ _) | (refine Below.drew ?_) | (refine Below.alloc ?_ (by first | exact Nat.le_refl _ | (simp; done) | omega | (simp; omega)) _) | (refine then_ ?_ (by with_reducible assumption)) | assumption | (refine then_ ?_ (by assumption))))); have y0 := keepC x0 hB5; have y1 := keepC x1 hB5; have yf := keepF x1 xf hB5; have OW5 := Lib.hid (owns_below OW.out hB5); have hz5 := hB5.size; have lz5 : w2.heap.size < w5.heap.size := (by omega); have hw5 := then_ hw hB5; have k0 := keepC kc_0 hB5; have k1 := keepC kc_1 hB5; have m0 := keepC c0 hB5; have m1 := keepC c1 hB5; have m2 := keepC c2 hB5)
            | (refine step_append_lies _ (by rfl) _ _ _ (by rfl) W.heap.size 27 i0 _ 3 12 Try.underlying38 hi hz0 hz1 hz2 rfl (by omega) _ _ _ (by rfl) (OW5.out.alloc _) ⟨w5.heap.size, 0, none⟩ 1 1 [.float .f32 r, .float .f32 g, .float .f32 l] (by rfl) (by rfl) (World.news_of_block (cs := #[.float .f32 r, .float .f32 g, .float .f32 l]) (t := 27) (fr := (0, 0)) (heap_alloc_new w5 _)) (by simp [Value.oneCell']) (by omega) (by unfold maxLen; omega) (by omega) (by simp; omega) (w5.heap.size + 1) (by simp) ?_; intro gg cap w6 hown6 hg6 hat6 hlt6; have hA := (show Below w5.heap.size w5 (w5.alloc (Obj.cells #[.float .f32 r, .float .f32 g, .float .f32 l] 27)) by (repeat (first | with_reducible assumption | exact Below.refl _ _ | (refine Below.setCell ?_ (by first | exact Nat.le_refl _ | (simp; done) | omega | (simp; omega)) _) | (refine below_drewN ?_ _) | (refine Below.drew ?_) | (refine Below.alloc ?_ (by first | exact Nat.le_refl _ | (simp; done) | omega | (simp; omega)) _) | (refine then_ ?_ (by with_reducible assumption)) | assumption | (refine then_ ?_ (by assumption))))); have u0 := keepG_lt (keepC y0 hA) (OW5.out.alloc _) hg6 zW; have u1 := keepG_lt (keepC y1 hA) (OW5.out.alloc _) hg6 zW; have uf := keepG_fr (keepF y1 yf hA) (OW5.out.alloc _) hg6 zW (by simp; omega); have hB6 : Below w2.heap.size w2 w6 := Below.grown (hw5.alloc hw5.size _) hg6 (by simp; omega) (fun j hj => (by have := (OW5.out.lt j hj).1; omega)); have OW6 := Lib.hid hown6; have hz6 := hg6.size; simp only [World.size_alloc] at hz6; clear hown6 hg6 hat6)))
          all_goals
            go_wp2
            go_roundw
            case rel =>
              refine ⟨k + 1, some ⟨gg, 0, none⟩, cap, by omega, by go_num, by simp [go_sem, u0], by simp [go_sem, u1], by simp [go_sem, uf], ?_, by simp; omega, by (repeat (first | with_reducible assumption | exact Below.refl _ _ | (refine Below.setCell ?_ (by first | exact Nat.le_refl _ | (simp; done) | omega | (simp; omega)) _) | (refine below_drewN ?_ _) | (refine Below.drew ?_) | (refine Below.alloc ?_ (by first | exact Nat.le_refl _ | (simp; done) | omega | (simp; omega)) _) | (refine then_ ?_ (by with_reducible assumption)) | assumption | (refine then_ ?_ (by assumption))))⟩
              rw [S.out, flat_append]
              exact ownsRow_setCell_below OW6.out zW _
            case measure => simp [intOf]; omega
        · obtain rfl : k = n := by omega
          have kf1_0 := keepF (p := ⟨w.heap.size + 1, 0, none⟩) (v := .int .i64 0) (by first | assumption | (simp [go_sem]; done) | (simp [go_sem, *]; done)) (by first | assumption | (simp [go_sem]; done) | (simp [go_sem, *]; done)) hw; have kf1_1 := keepF (p := ⟨w.heap.size + 1, 1, none⟩) (v := .slice none 0 0) (by first | assumption | (simp [go_sem]; done) | (simp [go_sem, *]; done)) (by first | assumption | (simp [go_sem]; done) | (simp [go_sem, *]; done)) hw; have kc1_0 := keepC (p := ⟨w.heap.size + 1, 0, none⟩) (v := .int .i64 0) (by first | assumption | (simp [go_sem]; done) | (simp [go_sem, *]; done)) hw; have kc1_1 := keepC (p := ⟨w.heap.size + 1, 1, none⟩) (v := .slice none 0 0) (by first | assumption | (simp [go_sem]; done) | (simp [go_sem, *]; done)) hw; have lb1_ := (show w.heap.size + 1 < _ from World.block_lt_of_cell? _ _ kc1_0)
          have hz := hw.size
          go_wp2
          refine bodyPost_ret (v := .tuple #[.agg #[.int .i64 s, .slice O k C], .bool true]) (by simp [results, Try.results16, go_sem, *]) rfl ⟨O, C, by rw [R.out.1, R.out.2, spreadUp_len], ?_, by (repeat (first | with_reducible assumption | exact Below.refl _ _ | (refine Below.setCell ?_ (by first | exact Nat.le_refl _ | (simp; done) | omega | (simp; omega)) _) | (refine below_drewN ?_ _) | (refine Below.drew ?_) | (refine Below.alloc ?_ (by first | exact Nat.le_refl _ | (simp; done) | omega | (simp; omega)) _) | (refine then_ ?_ (by with_reducible assumption)) | assumption | (refine then_ ?_ (by assumption))))⟩
          rw [R.out.1, spreadUp_len]
          exact owns_mono (ownsRow_setCell_below (ownsRow_setCell_below OW.out (by show w.heap.size + 1 < _; omega) _) (by show w.heap.size + 1 < _; omega) _) (by have := hW2.size; omega)
end Go.Proofs.Ytchkcleenmoajaa
