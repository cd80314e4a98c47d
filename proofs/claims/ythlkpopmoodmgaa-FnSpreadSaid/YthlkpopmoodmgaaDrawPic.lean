
/- The draw of a picture. -/
import Derived.Test.YthlkpopmoodmgaaDrawP
import Derived.Test.YthlkpopmoodmgaaSpreadS
import Derived.Test.YthlkpopmoodmgaaPicP
namespace Go.Proofs.Ythlkpopmoodmgaa
open Go.RowKit
attribute [local go_sem] run_store_float run_store_complex

theorem CurB.off {w w' : World} {g : Nat} {A : Option Addr} {m c : Nat} {bs : List Int} {row : Option Nat} (h : CurB w g A m c bs) (hg : w.grownBy w' row) (ho : ∀ k, row = some k → g < k) : CurB w' g A m c bs := by
  obtain ⟨⟨i, x, hi, hh⟩, h2, h3, h4⟩ := h
  refine ⟨⟨i, x, hi, (hg.block g h3 (fun e => by have := ho g e.symm; omega)).trans hh⟩, h2.keep (fun p hp => World.cell?_of_block (hg.block p.block (by omega) (fun e => by have := ho _ e.symm; omega))), Nat.lt_of_lt_of_le h3 hg.size, h4⟩
theorem grown_mix {a b c : World} {row row2 : Option Nat} (h : a.grownBy b row) (k : b.grownBy c row2) (hr : ∀ j, row2 = some j → a.heap.size ≤ j) : a.grownBy c row :=
  ⟨k.os.trans h.os, k.tape.trans h.tape, k.output.trans h.output, Nat.le_trans h.size k.size, fun i hi hne => (k.block i (Nat.lt_of_lt_of_le hi h.size) (fun e => by have := hr i e.symm; omega)).trans (h.block i hi hne)⟩
theorem Rd.gro {α : Type} {enc : α → List Value} {sz : Nat} {w w' : World} {B f n : Nat} {xs : List α} {row : Option Nat} {o : Nat} (h : Rd enc sz w B (some ⟨f, o, none⟩) n xs) (hg : w.grownBy w' row) (hlt : f < w.heap.size) (hne : row ≠ some f) :
    Rd enc sz w' B (some ⟨f, o, none⟩) n xs :=
  ⟨h.1, fun hn => by
    obtain ⟨b, off, e, hb, hc⟩ := h.2 hn
    injection e with e
    injection e with e1 e2
    subst e1 e2
    exact ⟨f, o, rfl, hb, fun k x hx j u hu => (World.cell?_of_block (hg.block f hlt (fun e => hne e.symm))).trans (hc k x hx j u hu)⟩⟩
theorem CurB.drew {w : World} {g : Nat} {A : Option Addr} {m c : Nat} {bs : List Int} (h : CurB w g A m c bs) : CurB w.drew g A m c bs := h
theorem grown_undrew {w w' : World} {row : Option Nat} (h : w.drew.grownBy w' row) : w.grownBy w' row := ⟨h.os, h.tape, h.output, h.size, h.block⟩
theorem frG {w w' : World} {row : Option Nat} {b : Nat} (h : ∀ j, w.frozen? ⟨b, j, none⟩ = false) (hg : w.grownBy w' row) (hb : b < w.heap.size) (hne : row ≠ some b) : ∀ j, w'.frozen? ⟨b, j, none⟩ = false :=
  fun j => (World.frozen?_of_block (hg.block b hb (fun e => hne e.symm))).trans (h j)
theorem frB {w w' : World} {b : Nat} (h : ∀ j, w.frozen? ⟨b, j, none⟩ = false) (hg : Below w.heap.size w w') (hb : b < w.heap.size) : ∀ j, w'.frozen? ⟨b, j, none⟩ = false :=
  fun j => (hg.frozen (p := ⟨b, j, none⟩) hb).trans (h j)
theorem frS {w : World} {b : Nat} (h : ∀ j, w.frozen? ⟨b, j, none⟩ = false) (p : Addr) (u : Value) : ∀ j, (w.setCell p u).frozen? ⟨b, j, none⟩ = false := by
  intro j; simp [go_sem, h j]
theorem ne_of_off {v : Value} {f : Nat} (h : Off v f) : v.ownBlock ≠ some f := h
theorem owns_gt {w : World} {base : Nat} {E : TypeId} {sz : Nat} {v : Value} {n : Nat} {xs : List Value} (h : w.ownsRow base E sz v n xs) {g : Nat} (hg : g < base) : ∀ k, v.ownBlock = some k → g < k := fun k hk => by have := (h.lt k hk).1; omega
theorem owns_ge {w : World} {base : Nat} {E : TypeId} {sz : Nat} {v : Value} {n : Nat} {xs : List Value} (h : w.ownsRow base E sz v n xs) {b : Nat} (hg : b ≤ base) : ∀ k, v.ownBlock = some k → b ≤ k := fun k hk => by have := (h.lt k hk).1; omega
/-- a colour of two -/
theorem few_ok {c1 c2 x : Col} (h1 : colB c1 = true) (h2 : colB c2 = true) {y : Nat} (hx : [c1, c2][y]? = some x) : colB x = true := by
  have := List.mem_of_getElem? hx
  simp at this
  rcases this with rfl | rfl
  · exact h1
  · exact h2

theorem spread_pic {q : Nat} {xs : List Col} {kk : Nat} (hp : Pic q xs) (hk : kk < 4) : spreadL (kk : Int) ((q : Int) + 1) xs = ((q : Int) + 1, spreadUp (kk : Int) ((q : Int) + 1) xs xs.length) ∧ Pic q (spreadUp (kk : Int) ((q : Int) + 1) xs xs.length) := by
  have h1 : inB (kk : Int) 0 3 = true := by unfold inB; simp; omega
  refine ⟨by unfold spreadL; rw [h1, pic_ok hp]; rfl, hp.1, by rw [spreadUp_len]; exact hp.2.1, all_yes fun i x hx => ?_⟩
  unfold spreadUp at hx
  have hi : i < xs.length := by have := (List.getElem?_eq_some_iff.1 hx).1; simpa using this
  rw [List.getElem?_map, List.getElem?_range hi] at hx
  simp only [Option.map_some, Option.some.injEq] at hx
  have hb := firstI_bd (kind := (kk : Int)) (okCell_of q i hp.1 (by rw [← hp.2.1]; exact hi))
  have hj : (firstI (kk : Int) ((q : Int) + 1) (i : Int)).toNat < xs.length := by omega
  rw [List.getD_eq_getElem?_getD, List.getElem?_eq_getElem hj] at hx
  simp only [Option.getD_some] at hx
  rw [← hx]
  exact List.all_eq_true.1 hp.2.2 _ (List.getElem_mem _)

set_option maxRecDepth 100000 in
set_option maxHeartbeats 8000000 in
theorem l4DrawC (g : Nat) (A : Option Addr) (m c : Nat) (bs : List Int) (w : World) (hc : CurB w g A m c bs) :
    Calls Try.prog 79 #[.pointer (some ⟨g, 0, none⟩)] w fun e w' => ∃ (q : Nat) (xs : List Col) (O : Option Addr) (C : Nat), q < 5 ∧ Pic q xs ∧ e = .returned (.agg #[.int .i64 ((q : Int) + 1), .slice O xs.length C]) ∧ w'.ownsRow w.heap.size 78 3 (.slice O xs.length C) xs.length (flat colC xs) ∧ CurB w' g A m c bs ∧ w.grownBy w' (some g) := by
  have hgw := hc.2.2.1
  obtain ⟨i0, hi, hz0, hz1, hz2⟩ := info_parts infoCol
  go_enter Try.func79, Try.ntmps79
  go_wp2_with fail
  obtain ⟨W, hWe⟩ : ∃ W, W = w.alloc (Obj.cells #[.int .i64 0, .slice none 0 0] 29) := ⟨_, rfl⟩
  have hW : Below w.heap.size w W := by rw [hWe]; (repeat (first | with_reducible assumption | exact Below.refl _ _ | (refine Below.setCell ?_ (by first | exact Nat.le_refl _ | (simp; done) | omega | (simp; omega)) _) | (refine below_drewN ?_ _) | (refine Below.drew ?_) | (refine Below.alloc ?_ (by first | exact Nat.le_refl _ | (simp; done) | omega | (simp; omega)) _) | (refine then_ ?_ (by with_reducible assumption)) | assumption | (refine then_ ?_ (by assumption))))
  have zW : w.heap.size < W.heap.size := by rw [hWe]; simp
  have q0 : W.cell? ⟨w.heap.size, 0, none⟩ = some (.int .i64 0) := by rw [hWe]; simp [go_sem]
  have q1 : W.cell? ⟨w.heap.size, 1, none⟩ = some (.slice none 0 0) := by rw [hWe]; simp [go_sem]
  have f0 : ∀ j, W.frozen? ⟨w.heap.size, j, none⟩ = false := by intro j; rw [hWe]; simp [go_sem]
  rw [← hWe]
  clear hWe
  have hne : w.heap.size ≠ g := by omega
  have GW := grown_of_below hW (some g)
  refine (l1SomeC g A m c bs 1 5 _ (by omega) (by omega) (by omega) (hc.step hW)).mono ?_
  rintro e w1 ⟨s, hs1, hs5, rfl, hc1, hg1⟩
  obtain ⟨q, rfl⟩ : ∃ q : Nat, s = (q : Int) + 1 := ⟨(s - 1).toNat, by omega⟩
  have z1 := hg1.size
  have q0 := ((gcell hg1).1 w.heap.size 0 zW hne).trans q0
  have q1 := ((gcell hg1).1 w.heap.size 1 zW hne).trans q1
  have f0 := fun j => ((gcell hg1).2 w.heap.size j zW hne).trans (f0 j)
  have G1 := grown_trans GW hg1
  clear hc GW hW hg1
  go_wp2_with fail
  obtain ⟨V, hVe⟩ : ∃ V, V = w1.alloc (Obj.cells #[.int .i64 ((q : Int) + 1), .slice none 0 0] 29) := ⟨_, rfl⟩
  have hV : Below w1.heap.size w1 V := by rw [hVe]; (repeat (first | with_reducible assumption | exact Below.refl _ _ | (refine Below.setCell ?_ (by first | exact Nat.le_refl _ | (simp; done) | omega | (simp; omega)) _) | (refine below_drewN ?_ _) | (refine Below.drew ?_) | (refine Below.alloc ?_ (by first | exact Nat.le_refl _ | (simp; done) | omega | (simp; omega)) _) | (refine then_ ?_ (by with_reducible assumption)) | assumption | (refine then_ ?_ (by assumption))))
  have zV : w1.heap.size < V.heap.size := by rw [hVe]; simp
  have p0 : V.cell? ⟨w1.heap.size, 0, none⟩ = some (.int .i64 ((q : Int) + 1)) := by rw [hVe]; simp [go_sem]
  have p1 : V.cell? ⟨w1.heap.size, 1, none⟩ = some (.slice none 0 0) := by rw [hVe]; simp [go_sem]
  have pf : ∀ j, V.frozen? ⟨w1.heap.size, j, none⟩ = false := by intro j; rw [hVe]; simp [go_sem]
  rw [← hVe]
  clear hVe
  have hne1 : w1.heap.size ≠ g := by omega
  have lt1 : w.heap.size < w1.heap.size := by omega
  have GV := grown_trans G1 (grown_of_below hV (some g))
  have hcV := hc1.step hV
  have q0 := keepC q0 hV
  have q1 := keepC q1 hV
  have f0 := fun j => (hV.frozen (p := ⟨w.heap.size, j, none⟩) lt1).trans (f0 j)
  clear hc1 G1 hV
  refine (l2DrawC g A m c bs _ hcV).mono ?_
  rintro e w2 ⟨r1, s1, t1, hk1, rfl, hc2, hg2⟩
  go_wp2_with fail
  refine (l2DrawC g A m c bs _ hc2).mono ?_
  rintro e w3 ⟨r2, s2, t2, hk2, rfl, hc3, hg3⟩
  have GG := grown_trans hg2 hg3
  have q0 := ((gcell GG).1 w.heap.size 0 (by omega) hne).trans q0
  have q1 := ((gcell GG).1 w.heap.size 1 (by omega) hne).trans q1
  have f0 := fun j => ((gcell GG).2 w.heap.size j (by omega) hne).trans (f0 j)
  have p0 := ((gcell GG).1 w1.heap.size 0 zV hne1).trans p0
  have p1 := ((gcell GG).1 w1.heap.size 1 zV hne1).trans p1
  have pf := fun j => ((gcell GG).2 w1.heap.size j zV hne1).trans (pf j)
  have G3 := grown_trans GV GG
  have z3 := GG.size
  clear hcV hc2 hg2 hg3 GG GV
  go_wp2_with fail
  obtain ⟨F, hFe⟩ : ∃ F, F = w3.alloc (Obj.cells #[.float .f32 r1, .float .f32 s1, .float .f32 t1, .float .f32 r2, .float .f32 s2, .float .f32 t2] 78) := ⟨_, rfl⟩
  have hF : Below w3.heap.size w3 F := by rw [hFe]; (repeat (first | with_reducible assumption | exact Below.refl _ _ | (refine Below.setCell ?_ (by first | exact Nat.le_refl _ | (simp; done) | omega | (simp; omega)) _) | (refine below_drewN ?_ _) | (refine Below.drew ?_) | (refine Below.alloc ?_ (by first | exact Nat.le_refl _ | (simp; done) | omega | (simp; omega)) _) | (refine then_ ?_ (by with_reducible assumption)) | assumption | (refine then_ ?_ (by assumption))))
  have zF : w3.heap.size < F.heap.size := by rw [hFe]; simp
  have RF : Rd colC 3 F F.heap.size (some ⟨w3.heap.size, 0, none⟩) 2 [(r1, s1, t1), (r2, s2, t2)] := by
    refine ⟨rfl, fun _ => ⟨_, _, rfl, zF, ?_⟩⟩
    intro k x hx j u hu
    rw [hFe]
    match k, hx with
    | 0, hx =>
      simp at hx; subst hx
      match j, hu with
      | 0, hu => simp [colC] at hu; subst hu; simp [go_sem]
      | 1, hu => simp [colC] at hu; subst hu; simp [go_sem]
      | 2, hu => simp [colC] at hu; subst hu; simp [go_sem]
    | 1, hx =>
      simp at hx; subst hx
      match j, hu with
      | 0, hu => simp [colC] at hu; subst hu; simp [go_sem]
      | 1, hu => simp [colC] at hu; subst hu; simp [go_sem]
      | 2, hu => simp [colC] at hu; subst hu; simp [go_sem]
  rw [← hFe]
  clear hFe
  have lt3 : w1.heap.size < w3.heap.size := by omega
  have hlt3 : w.heap.size < w3.heap.size := by omega
  have q0 := keepC q0 hF
  have q1 := keepC q1 hF
  have f0 := fun j => (hF.frozen (p := ⟨w.heap.size, j, none⟩) hlt3).trans (f0 j)
  have p0 := keepC p0 hF
  have p1 := keepC p1 hF
  have pf := fun j => (hF.frozen (p := ⟨w1.heap.size, j, none⟩) lt3).trans (pf j)
  have GF := grown_trans G3 (grown_of_below hF (some g))
  have hcF := hc3.step hF
  have g3 : g < w3.heap.size := hc3.2.2.1
  clear hc3 G3 hF
  go_wp2_with fail
  go_loopw [5] (fun i wr => ∃ (k : Nat) (xs : List Col) (O : Option Addr) (C : Nat), k ≤ (q + 1) * (q + 1) ∧ i = .int .i64 k ∧ xs.length = k ∧ xs.all colB = true ∧ wr.cell? ⟨w1.heap.size, 0, none⟩ = some (.int .i64 ((q : Int) + 1)) ∧ wr.cell? ⟨w1.heap.size, 1, none⟩ = some (.slice O k C) ∧ (∀ j, wr.frozen? ⟨w1.heap.size, j, none⟩ = false) ∧ wr.cell? ⟨w.heap.size, 0, none⟩ = some (.int .i64 0) ∧ wr.cell? ⟨w.heap.size, 1, none⟩ = some (.slice none 0 0) ∧ (∀ j, wr.frozen? ⟨w.heap.size, j, none⟩ = false) ∧ wr.ownsRow F.heap.size 78 3 (.slice O k C) k (flat colC xs) ∧ Rd colC 3 wr F.heap.size (some ⟨w3.heap.size, 0, none⟩) 2 [(r1, s1, t1), (r2, s2, t2)] ∧ CurB wr g A m c bs ∧ F.heap.size ≤ wr.heap.size ∧ w.grownBy wr (some g)) (fun i _ => (q + 1) * (q + 1) - (intOf i).toNat)
  case atStart => exact ⟨0, [], none, 0, Nat.zero_le _, rfl, rfl, rfl, p0, p1, pf, q0, q1, f0, ⟨rfl, .inl ⟨rfl, rfl⟩⟩, RF, hcF, Nat.le_refl _, GF⟩
  case round =>
    clear q0 q1 f0 p0 p1 pf RF hcF GF
    obtain ⟨k, xs, O, C, hk, rfl, hxl, hxc, p0, p1, pf, q0, q1, f0, hown, hRF, hcr, hsz, hG⟩ := hrel
    have OW := Lib.hid hown
    have RF := Lib.hid hRF
    have XL := Lib.hid hxl
    have XC := Lib.hid hxc
    have q5 : (q : Int) ≤ 4 := by omega
    have hsq : ((q : Int) + 1) * ((q : Int) + 1) = (((q + 1) * (q + 1) : Nat) : Int) := by rw [Int.natCast_mul]; rfl
    have h25 : (q + 1) * (q + 1) ≤ 5 * 5 := Nat.mul_le_mul (by omega) (by omega)
    clear hown hRF hxl hxc
    obtain ⟨n, hn⟩ : ∃ n, n = (q + 1) * (q + 1) := ⟨_, rfl⟩
    rw [← hn] at hsq h25 hk ⊢
    have HN := Lib.hid hn
    clear hn
    by_cases hlt : k < n
    · have hki : (k : Int) < (n : Int) := by omega
      have hk0 : (0 : Int) ≤ (k : Int) := by omega
      have pf1 := pf 1
      go_wp2_with fail
      go_region_law ((first
        | (go_simp; go_at_call 83; refine (l1BelowC g A m c bs 2 _ (by omega) (by omega) hcr.drew).mono ?_; rintro e w5 ⟨y, hy, rfl, hc5, hg5'⟩; have hg5 := grown_undrew hg5'; clear hg5'; have RF5 := Lib.hid (Rd.gro RF.out hg5 (show w3.heap.size < wr.heap.size by omega) (fun e => by injection e with e; omega)); obtain ⟨bx, offx, r, gg, l, ex, hbl, hx, m0, m1, m2⟩ := RF5.out.col (show y < 2 by omega); (injection ex with ex); (injection ex with ex1 ex2); subst ex1 ex2; simp only [Nat.zero_add] at m0 m1 m2; have CX := Lib.hid (few_ok hk1 hk2 hx); clear hx; have hky := (show (y : Int) < 2 by omega); have hy0 := (show (0 : Int) ≤ (y : Int) by omega); have y0 := ((gcell hg5).1 w1.heap.size 0 (by omega) hne1).trans p0; have y1 := ((gcell hg5).1 w1.heap.size 1 (by omega) hne1).trans p1; have yf := fun j => ((gcell hg5).2 w1.heap.size j (by omega) hne1).trans (pf j); have yf1 := yf 1; have x0 := ((gcell hg5).1 w.heap.size 0 (by omega) hne).trans q0; have x1 := ((gcell hg5).1 w.heap.size 1 (by omega) hne).trans q1; have xf := fun j => ((gcell hg5).2 w.heap.size j (by omega) hne).trans (f0 j); have OW5 := Lib.hid (owns_grown OW.out hg5 (fun k hk => (by injection hk with hk; rw [← hk]; exact off_lt OW.out (by omega)))); have hz5 := hg5.size; have lz5 := (show w1.heap.size < w5.heap.size by omega); have G5 := grown_trans hG hg5)
        | (refine step_append_lies _ (by rfl) _ _ _ (by rfl) F.heap.size 78 i0 _ 3 12 Try.underlying27 hi hz0 hz1 hz2 rfl (by omega) _ _ _ (by rfl) (OW5.out.alloc _) ⟨w5.heap.size, 0, none⟩ 1 1 [.float .f32 r, .float .f32 gg, .float .f32 l] (by rfl) (by rfl) (World.news_of_block (cs := #[.float .f32 r, .float .f32 gg, .float .f32 l]) (t := 78) (fr := (0, 0)) (heap_alloc_new w5 _)) (by simp [Value.oneCell']) (by omega) (by unfold maxLen; omega) (by omega) (by simp; omega) (w5.heap.size + 1) (by simp) ?_; intro ga cap w6 hown6 hg6 hat6 hlt6; have hA := (show Below w5.heap.size w5 (w5.alloc (Obj.cells #[.float .f32 r, .float .f32 gg, .float .f32 l] 78)) by (repeat (first | with_reducible assumption | exact Below.refl _ _ | (refine Below.setCell ?_ (by first | exact Nat.le_refl _ | (simp; done) | omega | (simp; omega)) _) | (refine below_drewN ?_ _) | (refine Below.drew ?_) | (refine Below.alloc ?_ (by first | exact Nat.le_refl _ | (simp; done) | omega | (simp; omega)) _) | (refine then_ ?_ (by with_reducible assumption)) | assumption | (refine then_ ?_ (by assumption))))); have OA := Lib.hid (OW5.out.alloc (Obj.cells #[.float .f32 r, .float .f32 gg, .float .f32 l] 78)); have u0 := keepG_lt (keepC y0 hA) OA.out hg6 (by show w1.heap.size < _; omega); have u1 := keepG_lt (keepC y1 hA) OA.out hg6 (by show w1.heap.size < _; omega); have zA := (show w5.heap.size < (w5.alloc (Obj.cells #[.float .f32 r, .float .f32 gg, .float .f32 l] 78)).heap.size by simp); have nb1 := off_lt OA.out (show w1.heap.size < F.heap.size by omega); have nb0 := off_lt OA.out (show w.heap.size < F.heap.size by omega); have nb3 := off_lt OA.out (show w3.heap.size < F.heap.size by omega); have uf := frG (frB yf hA (by omega)) hg6 (by omega) nb1; have uf1 := uf 1; have v0 := keepG_off (keepC x0 hA) hg6 nb0; have v1 := keepG_off (keepC x1 hA) hg6 nb0; have vf := frG (frB xf hA (by omega)) hg6 (by omega) nb0; have RF6 := Lib.hid (Rd.gro (Rd.gro RF5.out (grown_of_below hA none) (by omega) (by simp)) hg6 (by omega) nb3); have hc6 := CurB.off (hc5.step hA) hg6 (owns_gt OA.out (by omega)); have G6 := grown_mix (grown_trans G5 (grown_of_below hA (some g))) hg6 (owns_ge OA.out (by omega)); have OW6 := Lib.hid hown6; have hz6 := hg6.size; simp only [World.size_alloc] at hz6; clear hown6 hg6 hat6)))
      all_goals
        go_wp2
        go_roundw
        case rel =>
          refine ⟨k + 1, xs ++ [(r, gg, l)], some ⟨ga, 0, none⟩, cap, by omega, by go_num, by simp [XL.out], by rw [List.all_append, XC.out]; simp [CX.out], by simp [go_sem, u0], by simp [go_sem, u1], frS uf _ _, by simp [go_sem, v0], by simp [go_sem, v1], frS vf _ _, ?_, ?_, curB_set hc6 (by show g < w1.heap.size; omega) _, by simp; omega, grown_new G6 (by show w.heap.size ≤ w1.heap.size; omega) _⟩
          · rw [flat_append]
            exact ownsRow_setCell_below OW6.out (by show w1.heap.size < _; omega) _
          · exact RF6.out.gro (grown_set (World.grownBy.refl _ _) _ _) (by omega) (by intro e; injection e with e; omega)
        case measure => simp [intOf]; omega
    · obtain rfl : k = n := by omega
      have hp : Pic q xs := ⟨by omega, by rw [XL.out]; exact HN.out, XC.out⟩
      have HP := Lib.hid hp
      clear hp
      have pf1 := pf 1
      have pf0 := pf 0
      have f00 := f0 0
      have f01 := f0 1
      go_wp2_with fail
      refine (l1OnceC g A m c bs 2 _ (by omega) (by omega) hcr).mono ?_
      rintro e w5 ⟨b, rfl, hc5, hg5⟩
      have y0 := ((gcell hg5).1 w1.heap.size 0 (by omega) hne1).trans p0
      have y1 := ((gcell hg5).1 w1.heap.size 1 (by omega) hne1).trans p1
      have yf := frG pf hg5 (by omega) (by intro e; injection e with e; omega)
      have x0 := ((gcell hg5).1 w.heap.size 0 (by omega) hne).trans q0
      have x1 := ((gcell hg5).1 w.heap.size 1 (by omega) hne).trans q1
      have xf := frG f0 hg5 (by omega) (by intro e; injection e with e; omega)
      have OW5 := Lib.hid (owns_grown OW.out hg5 (fun k hk => (by injection hk with hk; rw [← hk]; exact off_lt OW.out (by omega))))
      have z5 := hg5.size
      have G5 := grown_trans hG hg5
      have yf0 := yf 0
      have yf1 := yf 1
      have xf0 := xf 0
      have xf1 := xf 1
      clear p0 p1 pf q0 q1 f0 hg5 hcr pf1 pf0 f00 f01
      cases b
      · go_wp2
        refine bodyPost_ret (v := .agg #[.int .i64 ((q : Int) + 1), .slice O k C]) (by simp [results, Try.results79, go_sem, *]) rfl ⟨q, xs, O, C, by omega, HP.out, by rw [XL.out], ?_, curB_set (curB_set hc5 hgw _) hgw _, grown_new (grown_new G5 (Nat.le_refl _) _) (Nat.le_refl _) _⟩
        rw [XL.out]
        exact owns_mono (ownsRow_setCell_below (ownsRow_setCell_below OW5.out (by show w.heap.size < _; omega) _) (by show w.heap.size < _; omega) _) (by omega)
      · go_wp2_with fail
        go_region_law ((first
          | (go_simp; go_at_call 83; refine (l1BelowC g A m c bs 4 _ (by omega) (by omega) hc5.drew).mono ?_; rintro e w6 ⟨y, hy, rfl, hc6, hg6'⟩; have hg6 := grown_undrew hg6'; clear hg6'; have a0 := ((gcell hg6).1 w1.heap.size 0 (by omega) hne1).trans y0; have a1 := ((gcell hg6).1 w1.heap.size 1 (by omega) hne1).trans y1; have af := frG yf hg6 (by omega) (by intro e; injection e with e; omega); have b0 := ((gcell hg6).1 w.heap.size 0 (by omega) hne).trans x0; have b1 := ((gcell hg6).1 w.heap.size 1 (by omega) hne).trans x1; have bf := frG xf hg6 (by omega) (by intro e; injection e with e; omega); have OW6 := Lib.hid (owns_grown OW5.out hg6 (fun k hk => (by injection hk with hk; rw [← hk]; exact off_lt OW5.out (by omega)))); have z6 := hg6.size; have G6 := grown_trans G5 hg6; have r6 := Rd.of_own colC_len XL.out OW6.out)
          | (go_simp; go_at_call 37; refine (specSpreadPicture_any (y : Int) ((q : Int) + 1) O k C xs _ (by unfold maxLen; omega) r6).mono ?_; rw [(spread_pic HP.out (show y < 4 by omega)).1]; have HP7 := Lib.hid (spread_pic HP.out (show y < 4 by omega)).2; dsimp only; generalize spreadUp (y : Int) ((q : Int) + 1) xs xs.length = ys at HP7 ⊢; generalize spreadOk (y : Int) ((q : Int) + 1) xs = ob; rintro e w7 ⟨B7, d7, rfl, ho7, hb7⟩; have lb6 := (show w1.heap.size < w6.heap.size by omega); have la6 := (show w.heap.size < w6.heap.size by omega); have c0 := keepC a0 hb7; have c1 := keepC a1 hb7; have cf := frB af hb7 lb6; have e0 := keepC b0 hb7; have e1 := keepC b1 hb7; have ef := frB bf hb7 la6; have hc7 := hc6.step hb7; have G7 := grown_trans G6 (grown_of_below hb7 (some g)); have OW7 := Lib.hid ho7; have cf0 := cf 0; have cf1 := cf 1; have ef0 := ef 0; have ef1 := ef 1; clear ho7)))
        all_goals
          go_wp2
          refine bodyPost_ret (v := .agg #[.int .i64 ((q : Int) + 1), .slice B7 ys.length d7]) (by simp [results, Try.results79, go_sem, *]) rfl ⟨q, ys, B7, d7, by omega, HP7.out, rfl, ?_, curB_set (curB_set (curB_set (curB_set hc7 (by show g < w1.heap.size; omega) _) (by show g < w1.heap.size; omega) _) hgw _) hgw _, grown_new (grown_new (grown_new (grown_new G7 (by show w.heap.size ≤ w1.heap.size; omega) _) (by show w.heap.size ≤ w1.heap.size; omega) _) (Nat.le_refl _) _) (Nat.le_refl _) _⟩
          exact owns_mono (ownsRow_setCell_below (ownsRow_setCell_below (ownsRow_setCell_below (ownsRow_setCell_below OW7.out lb6 _) lb6 _) la6 _) la6 _) (by omega)
end Go.Proofs.Ythlkpopmoodmgaa
