
/- l6Draw: a show that has gone on for a while; the walk. -/
import Derived.Test.YthlphmojldbpkaaGreatM32
namespace Go.Proofs.YthlphmojldbpkaaGreat
open Go.RowKit
attribute [local go_sem] run_store_float run_store_complex


set_option maxRecDepth 100000 in
set_option maxHeartbeats 16000000 in
theorem l6DrawC (g : Nat) (A : Option Addr) (m c : Nat) (bs : List Int) (most : Int) (w : World) (h0 : 0 ≤ most) (h1 : most ≤ 200) (hc : CurB w g A m c bs) :
    Calls Tryz.prog 28 #[.pointer (some ⟨g, 0, none⟩), .int .i64 most] w fun r w' => ∃ (s : Shw) (S B L : Option Addr) (k d q : Nat), Drawn s ∧ r = .returned (.agg #[.int .i64 s.sz, .float .f32 s.st, .float .f32 s.li.1, .float .f32 s.li.2.1, .float .f32 s.li.2.2, .slice S s.sh.length k, .int .i64 s.mir, .complex .f32 s.gr.1 s.gr.2, .float .f32 s.loss, .slice B s.bs.length d, .int .i64 s.tk, .slice L s.log.length q]) ∧ OwnS w' w.heap.size s S B L k d q ∧ CurB w' g A m c bs ∧ w.grownBy w' (some g) := by
  have hgw := hc.2.2.1
  go_enter Tryz.func28, Tryz.ntmps28
  go_wp2_with fail
  obtain ⟨W, hWe⟩ : ∃ W, W = w.alloc (Obj.cells #[.int .i64 0, .float .f32 0, .float .f32 0, .float .f32 0, .float .f32 0, .slice none 0 0, .int .i64 0, .complex .f32 0 0, .float .f32 0, .slice none 0 0, .int .i64 0, .slice none 0 0] 34) := ⟨_, rfl⟩
  have hW : Below w.heap.size w W := by rw [hWe]; (repeat (first | with_reducible assumption | exact Below.refl _ _ | (refine Below.setCell ?_ (by first | exact Nat.le_refl _ | (simp; done) | omega | (simp; omega)) _) | (refine below_drewN ?_ _) | (refine Below.drew ?_) | (refine Below.alloc ?_ (by first | exact Nat.le_refl _ | (simp; done) | omega | (simp; omega)) _) | (refine then_ ?_ (by with_reducible assumption)) | assumption | (refine then_ ?_ (by assumption))))
  have co : CA W w.heap.size shw0 := by rw [hWe]; exact CA.new w _ _
  have fo : FA W w.heap.size := by rw [hWe]; exact FA.new w _ _
  have zW : w.heap.size < W.heap.size := by rw [hWe]; simp
  rw [← hWe]
  clear hWe
  have GW := grown_of_below hW (some g)
  (with_reducible refine (l1SomeC g A m c bs 1 5 _ (by omega) (by omega) (by omega) (hc.step hW)).mono ?_)
  rintro r w1 ⟨sz, s0, s1, rfl, hc1, hg1⟩
  have ne0 : ∀ k, some g = some k → w.heap.size ≠ k := fun k e => by injection e with e; omega
  replace co := co.grown hg1 ne0
  replace fo := fo.grown zW hg1 ne0
  have z1 := hg1.size
  have G1 := grown_trans GW hg1
  clear hc hW GW hg1
  go_wp2_with fail
  obtain ⟨V, hVe⟩ : ∃ V, V = w1.alloc (Obj.cells #[.float .f32 1056964608, .float .f32 1065353216, .float .f32 1073741824, .float .f32 1050253722] 24) := ⟨_, rfl⟩
  have hV : Below w1.heap.size w1 V := by rw [hVe]; (repeat (first | with_reducible assumption | exact Below.refl _ _ | (refine Below.setCell ?_ (by first | exact Nat.le_refl _ | (simp; done) | omega | (simp; omega)) _) | (refine below_drewN ?_ _) | (refine Below.drew ?_) | (refine Below.alloc ?_ (by first | exact Nat.le_refl _ | (simp; done) | omega | (simp; omega)) _) | (refine then_ ?_ (by with_reducible assumption)) | assumption | (refine then_ ?_ (by assumption))))
  have qs : CA V w1.heap.size [.float .f32 1056964608, .float .f32 1065353216, .float .f32 1073741824, .float .f32 1050253722] := by rw [hVe]; exact CA.new w1 _ _
  have zV : w1.heap.size < V.heap.size := by rw [hVe]; simp
  rw [← hVe]
  clear hVe
  replace co := co.keep hV
  replace fo := fo.keep hV (by omega)
  have ne1 : ∀ k, some g = some k → w1.heap.size ≠ k := fun k e => by injection e with e; omega
  (with_reducible refine (l1BelowC g A m c bs 4 _ (by omega) (by omega) (hc1.step hV)).mono ?_)
  rintro r w2 ⟨x, hx, rfl, hc2, hg2⟩
  replace qs := qs.grown hg2 ne1
  replace co := co.grown hg2 ne0
  replace fo := fo.grown (by omega) hg2 ne0
  have z2 := hg2.size
  have G2 := grown_trans (grown_trans G1 (grown_of_below hV _)) hg2
  obtain ⟨st, hst, cst⟩ : ∃ st, st ∈ stepsD ∧ w2.cell? ⟨w1.heap.size, x, none⟩ = some (.float .f32 st) := by
    have e : x = 0 ∨ x = 1 ∨ x = 2 ∨ x = 3 := by omega
    rcases e with rfl | rfl | rfl | rfl
    · exact ⟨1056964608, by decide, qs 0 _ rfl⟩
    · exact ⟨1065353216, by decide, qs 1 _ rfl⟩
    · exact ⟨1073741824, by decide, qs 2 _ rfl⟩
    · exact ⟨1050253722, by decide, qs 3 _ rfl⟩
  have hx0 : (0 : Int) ≤ (x : Int) := by omega
  have hx4 : (x : Int) < 4 := by omega
  have hok : newOk 0 sz st 0 0 0 = true := by
    unfold newOk
    rw [stepsD_ok hst, show inB sz 1 8 = true by unfold inB; simp; omega, show colB (0, 0, 0) = true by decide +kernel]
    rfl
  have KN := fun w => specNewShow_any 0 sz st 0 0 0 w
  simp only [madeV, hok, if_true, newV] at KN
  have DN := new_drawn (sz := sz) (st := st) (by unfold inB; simp; omega) (stepsD_ok hst) (by omega) hst
  have DN' := Lib.hid DN
  have HC1 := hc1.2.2.1
  clear hok hst qs hc1 hV hg2 G1 hx DN
  go_wp2_with fail
  (with_reducible refine (KN _).mono ?_)
  rintro r w3 ⟨rfl, hb3⟩
  replace co := co.keep hb3
  replace fo := fo.keep hb3 (by omega)
  have G3 := grown_trans G2 (grown_of_below hb3 _)
  have hc3 := hc2.step hb3
  have z3 := hb3.size
  clear KN hb3 G2 hc2 cst hx0 hx4
  go_upto_region 2 with fail
  have h : DrW w g A m c bs w3.heap.size (shwL (newS sz st) none none none 0 0 0 0 0 0) (newS sz st) none none none 0 0 0 (w3.alloc (Obj.cells #[.int .i64 sz, .float .f32 st, .float .f32 0, .float .f32 0, .float .f32 0, .slice none 0 0, .int .i64 0, .complex .f32 0 0, .float .f32 0, .slice none 0 0, .int .i64 0, .slice none 0 0] 34)) :=
    ⟨CA.new w3 _ _, FA.new w3 _ _, co.alloc _, fo.alloc (by omega) _, by omega, by simp, hc3.step (by (repeat (first | with_reducible assumption | exact Below.refl _ _ | (refine Below.setCell ?_ (by first | exact Nat.le_refl _ | (simp; done) | omega | (simp; omega)) _) | (refine below_drewN ?_ _) | (refine Below.drew ?_) | (refine Below.alloc ?_ (by first | exact Nat.le_refl _ | (simp; done) | omega | (simp; omega)) _) | (refine then_ ?_ (by with_reducible assumption)) | assumption | (refine then_ ?_ (by assumption))))), grown_trans G3 (grown_of_below (by (repeat (first | with_reducible assumption | exact Below.refl _ _ | (refine Below.setCell ?_ (by first | exact Nat.le_refl _ | (simp; done) | omega | (simp; omega)) _) | (refine below_drewN ?_ _) | (refine Below.drew ?_) | (refine Below.alloc ?_ (by first | exact Nat.le_refl _ | (simp; done) | omega | (simp; omega)) _) | (refine then_ ?_ (by with_reducible assumption)) | assumption | (refine then_ ?_ (by assumption))))) _), hgw, ownS_new _ _ _ _, offS_new _ _ _⟩
  obtain ⟨y, hy⟩ : ∃ y, y = w3.heap.size := ⟨_, rfl⟩
  obtain ⟨X, hX⟩ : ∃ X, X = w3.alloc (Obj.cells #[.int .i64 sz, .float .f32 st, .float .f32 0, .float .f32 0, .float .f32 0, .slice none 0 0, .int .i64 0, .complex .f32 0 0, .float .f32 0, .slice none 0 0, .int .i64 0, .slice none 0 0] 34) := ⟨_, rfl⟩
  rw [← hX, ← hy] at h
  rw [← hX, ← hy]
  clear hX hy co fo hc3 G3 z1 z2 z3 zV zW HC1
  have lyX := h.lt
  have KD1 : ∀ (cr cq cl : Nat) (w' : World), colB (cr, cq, cl) = true → RdS w' (newS sz st) none none none → Calls Tryz.prog 62 #[.agg #[.int .i64 sz, .float .f32 st, .float .f32 0, .float .f32 0, .float .f32 0, .slice none 0 0, .int .i64 0, .complex .f32 0 0, .float .f32 0, .slice none 0 0, .int .i64 0, .slice none 0 0], .agg #[.int .i64 3, .int .i64 0, .complex .f32 0 0, .complex .f32 0 0, .complex .f32 0 0, .complex .f32 0 0, .float .f32 0, .float .f32 0, .float .f32 0, .float .f32 0, .float .f32 cr, .float .f32 cq, .float .f32 cl]] w' fun r w'' => DoneS (newS sz st) w'.heap.size r w'' ∧ Below w'.heap.size w' w'' :=
    fun cr cq cl w' hcl hr => specDoEvent_drawn (newS sz st) (.light (cr, cq, cl)) none none none 0 0 0 w' DN'.out hcl hr
  have a0 := h.cx 0 _ rfl; have a1 := h.cx 1 _ rfl; have a2 := h.cx 2 _ rfl; have a3 := h.cx 3 _ rfl; have a4 := h.cx 4 _ rfl; have a5 := h.cx 5 _ rfl; have a6 := h.cx 6 _ rfl; have a7 := h.cx 7 _ rfl; have a8 := h.cx 8 _ rfl; have a9 := h.cx 9 _ rfl; have a10 := h.cx 10 _ rfl; have a11 := h.cx 11 _ rfl
  simp only [newS] at a0 a1 a2 a3 a4 a5 a6 a7 a8 a9 a10 a11
  have KD := Lib.hid KD1
  clear KD1
  go_cut [20] (fun _ wx => ∃ (u : Shw) (S7 B7 L7 : Option Addr) (k7 d7 q7 : Nat), Drawn u ∧ DrW w g A m c bs y (shwL u S7 B7 L7 u.sh.length k7 u.bs.length d7 u.log.length q7) u S7 B7 L7 k7 d7 q7 wx)
  case first =>
    go_region_law ((first
      | (go_simp; go_at_call 65; (with_reducible refine (l2DrawC g A m c bs _ ?_).mono ?_); exact CurB.step h.cur (by (repeat (first | with_reducible assumption | exact Below.refl _ _ | (refine Below.setCell ?_ (by first | exact Nat.le_refl _ | (simp; done) | omega | (simp; omega)) _) | (refine below_drewN ?_ _) | (refine Below.drew ?_) | (refine Below.alloc ?_ (by first | exact Nat.le_refl _ | (simp; done) | omega | (simp; omega)) _) | (refine then_ ?_ (by with_reducible assumption)) | assumption | (refine then_ ?_ (by assumption))))); rintro r w5 ⟨cr, cq, cl, hcol, rfl, hc5, hg5⟩; have h5 := h.call hc5 (show X.grownBy w5 (some g) from grown_trans (grown_of_below (by (repeat (first | with_reducible assumption | exact Below.refl _ _ | (refine Below.setCell ?_ (by first | exact Nat.le_refl _ | (simp; done) | omega | (simp; omega)) _) | (refine below_drewN ?_ _) | (refine Below.drew ?_) | (refine Below.alloc ?_ (by first | exact Nat.le_refl _ | (simp; done) | omega | (simp; omega)) _) | (refine then_ ?_ (by with_reducible assumption)) | assumption | (refine then_ ?_ (by assumption))))) (some g)) hg5); have HC := Lib.hid hcol; have b0 := h5.cx 0 _ rfl; have b1 := h5.cx 1 _ rfl; have b2 := h5.cx 2 _ rfl; have b3 := h5.cx 3 _ rfl; have b4 := h5.cx 4 _ rfl; have b5 := h5.cx 5 _ rfl; have b6 := h5.cx 6 _ rfl; have b7 := h5.cx 7 _ rfl; have b8 := h5.cx 8 _ rfl; have b9 := h5.cx 9 _ rfl; have b10 := h5.cx 10 _ rfl; have b11 := h5.cx 11 _ rfl; simp only [newS] at b0 b1 b2 b3 b4 b5 b6 b7 b8 b9 b10 b11; clear hcol hc5 hg5)
      | (go_simp; go_at_call 62; (with_reducible refine (KD.out cr cq cl _ HC.out ?_).mono ?_); (exact (h5.step (by (repeat (first | with_reducible assumption | exact Below.refl _ _ | (refine Below.setCell ?_ (by first | exact Nat.le_refl _ | (simp; done) | omega | (simp; omega)) _) | (refine below_drewN ?_ _) | (refine Below.drew ?_) | (refine Below.alloc ?_ (by first | exact Nat.le_refl _ | (simp; done) | omega | (simp; omega)) _) | (refine then_ ?_ (by with_reducible assumption)) | assumption | (refine then_ ?_ (by assumption)))))).own.rd); rintro r w7 ⟨⟨u, b, S7, B7, L7, k7, d7, q7, hd7, rfl, own7⟩, hb7⟩; have h7 := (h5.step (show Below w5.heap.size w5 w7 from then_ (by (repeat (first | with_reducible assumption | exact Below.refl _ _ | (refine Below.setCell ?_ (by first | exact Nat.le_refl _ | (simp; done) | omega | (simp; omega)) _) | (refine below_drewN ?_ _) | (refine Below.drew ?_) | (refine Below.alloc ?_ (by first | exact Nat.le_refl _ | (simp; done) | omega | (simp; omega)) _) | (refine then_ ?_ (by with_reducible assumption)) | assumption | (refine then_ ?_ (by assumption))))) hb7)).own' own7 (by have := h5.hy; have := h5.lt; show w.heap.size + 1 ≤ w5.heap.size; omega) h5.lt; have HU := Lib.hid hd7; clear own7 hd7; have lyw := h7.lt; have f0 := h7.fx 0; have f1 := h7.fx 1; have f2 := h7.fx 2; have f3 := h7.fx 3; have f4 := h7.fx 4; have f5 := h7.fx 5; have f6 := h7.fx 6; have f7 := h7.fx 7; have f8 := h7.fx 8; have f9 := h7.fx 9; have f10 := h7.fx 10; have f11 := h7.fx 11; have e0 := h7.cx 0 _ rfl; have e1 := h7.cx 1 _ rfl; have e2 := h7.cx 2 _ rfl; have e3 := h7.cx 3 _ rfl; have e4 := h7.cx 4 _ rfl; have e5 := h7.cx 5 _ rfl; have e6 := h7.cx 6 _ rfl; have e7 := h7.cx 7 _ rfl; have e8 := h7.cx 8 _ rfl; have e9 := h7.cx 9 _ rfl; have e10 := h7.cx 10 _ rfl; have e11 := h7.cx 11 _ rfl; have H7 := Lib.hid h7; clear h7)))
    all_goals
      clear h5
      go_wp2_with fail
      have hp := ((((((((((((H7.out.put 0 (.int .i64 u.sz)).put 1 (.float .f32 u.st)).put 2 (.float .f32 u.li.1)).put 3 (.float .f32 u.li.2.1)).put 4 (.float .f32 u.li.2.2)).put 5 (.slice S7 u.sh.length k7)).put 6 (.int .i64 u.mir)).put 7 (.complex .f32 u.gr.1 u.gr.2)).put 8 (.float .f32 u.loss)).put 9 (.slice B7 u.bs.length d7)).put 10 (.int .i64 u.tk)).put 11 (.slice L7 u.log.length q7))
      go_meet
      exact ⟨u, S7, B7, L7, k7, d7, q7, HU.out, hp⟩

  case rest =>
  obtain ⟨t1, S1, B1, L1, k1, d1, q1, HT1, h⟩ := hcut
  clear a0 a1 a2 a3 a4 a5 a6 a7 a8 a9 a10 a11 KD lyX
  obtain ⟨X, hX⟩ : ∃ X, X = wc := ⟨_, rfl⟩
  rw [← hX] at h
  rw [← hX]
  clear hX
  have lyX := h.lt
  have KD := Lib.hid (fun (n : Int) (w' : World) (hr : RdS w' t1 S1 B1 L1) => (show Calls Tryz.prog 62 #[.agg #[.int .i64 t1.sz, .float .f32 t1.st, .float .f32 t1.li.1, .float .f32 t1.li.2.1, .float .f32 t1.li.2.2, .slice S1 t1.sh.length k1, .int .i64 t1.mir, .complex .f32 t1.gr.1 t1.gr.2, .float .f32 t1.loss, .slice B1 t1.bs.length d1, .int .i64 t1.tk, .slice L1 t1.log.length q1], .agg #[.int .i64 4, .int .i64 n, .complex .f32 0 0, .complex .f32 0 0, .complex .f32 0 0, .complex .f32 0 0, .float .f32 0, .float .f32 0, .float .f32 0, .float .f32 0, .float .f32 0, .float .f32 0, .float .f32 0]] w' fun r w'' => DoneS t1 w'.heap.size r w'' ∧ Below w'.heap.size w' w'' from specDoEvent_drawn t1 (.mirrors n) S1 B1 L1 k1 d1 q1 w' HT1 rfl hr))
  have a0 := h.cx 0 _ rfl; have a1 := h.cx 1 _ rfl; have a2 := h.cx 2 _ rfl; have a3 := h.cx 3 _ rfl; have a4 := h.cx 4 _ rfl; have a5 := h.cx 5 _ rfl; have a6 := h.cx 6 _ rfl; have a7 := h.cx 7 _ rfl; have a8 := h.cx 8 _ rfl; have a9 := h.cx 9 _ rfl; have a10 := h.cx 10 _ rfl; have a11 := h.cx 11 _ rfl
  go_upto_region 3 with fail
  go_cut [28] (fun _ wx => ∃ (u : Shw) (S7 B7 L7 : Option Addr) (k7 d7 q7 : Nat), Drawn u ∧ DrW w g A m c bs y (shwL u S7 B7 L7 u.sh.length k7 u.bs.length d7 u.log.length q7) u S7 B7 L7 k7 d7 q7 wx)
  case first =>
    go_region_law ((first
      | (go_simp; go_at_call 66; (with_reducible refine (l1IntC (fun _ => True) g X.heap.size 5 5 A m c bs _ ?_ ?_ ?_ ?_ ?_ ?_).mono ?_); exact CurB.step h.cur (by (repeat (first | with_reducible assumption | exact Below.refl _ _ | (refine Below.setCell ?_ (by first | exact Nat.le_refl _ | (simp; done) | omega | (simp; omega)) _) | (refine below_drewN ?_ _) | (refine Below.drew ?_) | (refine Below.alloc ?_ (by first | exact Nat.le_refl _ | (simp; done) | omega | (simp; omega)) _) | (refine then_ ?_ (by with_reducible assumption)) | assumption | (refine then_ ?_ (by assumption))))); omega; omega; (show X.heap.size < (X.alloc _).heap.size; simp); (have := h.hg; have := h.lt; have := h.hy; omega); exact mirL X; rintro r w5 ⟨n5, -, rfl, hc5, hg5⟩; have h5 := h.call hc5 (show X.grownBy w5 (some g) from grown_trans (grown_of_below (by (repeat (first | with_reducible assumption | exact Below.refl _ _ | (refine Below.setCell ?_ (by first | exact Nat.le_refl _ | (simp; done) | omega | (simp; omega)) _) | (refine below_drewN ?_ _) | (refine Below.drew ?_) | (refine Below.alloc ?_ (by first | exact Nat.le_refl _ | (simp; done) | omega | (simp; omega)) _) | (refine then_ ?_ (by with_reducible assumption)) | assumption | (refine then_ ?_ (by assumption))))) (some g)) hg5); have b0 := h5.cx 0 _ rfl; have b1 := h5.cx 1 _ rfl; have b2 := h5.cx 2 _ rfl; have b3 := h5.cx 3 _ rfl; have b4 := h5.cx 4 _ rfl; have b5 := h5.cx 5 _ rfl; have b6 := h5.cx 6 _ rfl; have b7 := h5.cx 7 _ rfl; have b8 := h5.cx 8 _ rfl; have b9 := h5.cx 9 _ rfl; have b10 := h5.cx 10 _ rfl; have b11 := h5.cx 11 _ rfl; clear hc5 hg5)
      | (go_simp; go_at_call 62; (with_reducible refine (KD.out n5 _ ?_).mono ?_); (exact (h5.step (by (repeat (first | with_reducible assumption | exact Below.refl _ _ | (refine Below.setCell ?_ (by first | exact Nat.le_refl _ | (simp; done) | omega | (simp; omega)) _) | (refine below_drewN ?_ _) | (refine Below.drew ?_) | (refine Below.alloc ?_ (by first | exact Nat.le_refl _ | (simp; done) | omega | (simp; omega)) _) | (refine then_ ?_ (by with_reducible assumption)) | assumption | (refine then_ ?_ (by assumption)))))).own.rd); rintro r w7 ⟨⟨u, b, S7, B7, L7, k7, d7, q7, hd7, rfl, own7⟩, hb7⟩; have h7 := (h5.step (show Below w5.heap.size w5 w7 from then_ (by (repeat (first | with_reducible assumption | exact Below.refl _ _ | (refine Below.setCell ?_ (by first | exact Nat.le_refl _ | (simp; done) | omega | (simp; omega)) _) | (refine below_drewN ?_ _) | (refine Below.drew ?_) | (refine Below.alloc ?_ (by first | exact Nat.le_refl _ | (simp; done) | omega | (simp; omega)) _) | (refine then_ ?_ (by with_reducible assumption)) | assumption | (refine then_ ?_ (by assumption))))) hb7)).own' own7 (by have := h5.hy; have := h5.lt; show w.heap.size + 1 ≤ w5.heap.size; omega) h5.lt; have HU := Lib.hid hd7; clear own7 hd7; have lyw := h7.lt; have f0 := h7.fx 0; have f1 := h7.fx 1; have f2 := h7.fx 2; have f3 := h7.fx 3; have f4 := h7.fx 4; have f5 := h7.fx 5; have f6 := h7.fx 6; have f7 := h7.fx 7; have f8 := h7.fx 8; have f9 := h7.fx 9; have f10 := h7.fx 10; have f11 := h7.fx 11; have e0 := h7.cx 0 _ rfl; have e1 := h7.cx 1 _ rfl; have e2 := h7.cx 2 _ rfl; have e3 := h7.cx 3 _ rfl; have e4 := h7.cx 4 _ rfl; have e5 := h7.cx 5 _ rfl; have e6 := h7.cx 6 _ rfl; have e7 := h7.cx 7 _ rfl; have e8 := h7.cx 8 _ rfl; have e9 := h7.cx 9 _ rfl; have e10 := h7.cx 10 _ rfl; have e11 := h7.cx 11 _ rfl; have H7 := Lib.hid h7; clear h7)))
    all_goals
      clear h5
      go_wp2_with fail
      have hp := ((((((((((((H7.out.put 0 (.int .i64 u.sz)).put 1 (.float .f32 u.st)).put 2 (.float .f32 u.li.1)).put 3 (.float .f32 u.li.2.1)).put 4 (.float .f32 u.li.2.2)).put 5 (.slice S7 u.sh.length k7)).put 6 (.int .i64 u.mir)).put 7 (.complex .f32 u.gr.1 u.gr.2)).put 8 (.float .f32 u.loss)).put 9 (.slice B7 u.bs.length d7)).put 10 (.int .i64 u.tk)).put 11 (.slice L7 u.log.length q7))
      go_meet
      exact ⟨u, S7, B7, L7, k7, d7, q7, HU.out, hp⟩
  case rest =>
  obtain ⟨t2, S2, B2, L2, k2, d2, q2, HT2, h⟩ := hcut
  clear a0 a1 a2 a3 a4 a5 a6 a7 a8 a9 a10 a11 KD lyX
  have lyX := h.lt
  have e1 : IntKind.i64.wrap (most + 1) = most + 1 := by rw [IntKind.wrap_i64]; omega
  go_wp2_with fail
  (with_reducible refine (l1BelowC g A m c bs (most + 1) _ (by omega) (by omega) h.cur).mono ?_)
  rintro r w9 ⟨N, hN, rfl, hc9, hg9⟩
  replace h := h.call hc9 hg9
  have HH := Lib.hid h
  have HT := Lib.hid HT2
  have hN2 : N ≤ 200 := by omega
  clear h lyX hc9 hg9 HT2 e1 hN
  go_wp2_with fail
  go_loopw [7] (fun i wr => ∃ (j : Nat) (u : Shw) (S7 B7 L7 : Option Addr) (k7 d7 q7 : Nat), j ≤ N ∧ i = .int .i64 j ∧ Drawn u ∧ DrW w g A m c bs y (shwL u S7 B7 L7 u.sh.length k7 u.bs.length d7 u.log.length q7) u S7 B7 L7 k7 d7 q7 wr) (fun i _ => (intOf i).toNat)
  case atStart => exact ⟨N, t2, S2, B2, L2, k2, d2, q2, Nat.le_refl _, rfl, HT.out, HH.out⟩
  case round =>
    obtain ⟨j, t, S, B, L, k, d, q, hj, rfl, HTt, h⟩ := hrel
    by_cases hlt : 0 < j
    · have hji : (0 : Int) < (j : Int) := by omega
      have hj64 : IntKind.i64.wrap ((j : Int) - 1) = (j : Int) - 1 := by rw [IntKind.wrap_i64]; omega
      have hl : t.sh.length ≤ 200 := by have := HTt.good.len; have := (okS_parts.1 HTt.ok).1; omega
      have KE := Lib.hid (fun w hc => l6EventC g A m c bs t S B L k d q t.bs.length t.log.length w hl hc)
      have KD := Lib.hid (fun (e : Ev) (w' : World) (he : evG e = true) (hr : RdS w' t S B L) => specDoEvent_drawn t e S B L k d q w' HTt he hr)
      have a0 := h.cx 0 _ rfl; have a1 := h.cx 1 _ rfl; have a2 := h.cx 2 _ rfl; have a3 := h.cx 3 _ rfl; have a4 := h.cx 4 _ rfl; have a5 := h.cx 5 _ rfl; have a6 := h.cx 6 _ rfl; have a7 := h.cx 7 _ rfl; have a8 := h.cx 8 _ rfl; have a9 := h.cx 9 _ rfl; have a10 := h.cx 10 _ rfl; have a11 := h.cx 11 _ rfl
      have lyX := h.lt
      clear HTt hl
      go_upto_region 7 with fail
      go_region_law ((first
        | (go_simp; go_at_call 29; (with_reducible refine (KE.out _ ?_).mono ?_); exact CurB.step h.cur (by (repeat (first | with_reducible assumption | exact Below.refl _ _ | (refine Below.setCell ?_ (by first | exact Nat.le_refl _ | (simp; done) | omega | (simp; omega)) _) | (refine below_drewN ?_ _) | (refine Below.drew ?_) | (refine Below.alloc ?_ (by first | exact Nat.le_refl _ | (simp; done) | omega | (simp; omega)) _) | (refine then_ ?_ (by with_reducible assumption)) | assumption | (refine then_ ?_ (by assumption))))); rintro r w5 ⟨e, he5, rfl, hc5, hg5⟩; have h5 := h.call hc5 (show wr.grownBy w5 (some g) from grown_trans (grown_of_below (by (repeat (first | with_reducible assumption | exact Below.refl _ _ | (refine Below.setCell ?_ (by first | exact Nat.le_refl _ | (simp; done) | omega | (simp; omega)) _) | (refine below_drewN ?_ _) | (refine Below.drew ?_) | (refine Below.alloc ?_ (by first | exact Nat.le_refl _ | (simp; done) | omega | (simp; omega)) _) | (refine then_ ?_ (by with_reducible assumption)) | assumption | (refine then_ ?_ (by assumption))))) (some g)) hg5); have HE5 := Lib.hid he5; have b0 := h5.cx 0 _ rfl; have b1 := h5.cx 1 _ rfl; have b2 := h5.cx 2 _ rfl; have b3 := h5.cx 3 _ rfl; have b4 := h5.cx 4 _ rfl; have b5 := h5.cx 5 _ rfl; have b6 := h5.cx 6 _ rfl; have b7 := h5.cx 7 _ rfl; have b8 := h5.cx 8 _ rfl; have b9 := h5.cx 9 _ rfl; have b10 := h5.cx 10 _ rfl; have b11 := h5.cx 11 _ rfl; clear hc5 hg5 he5)
        | (go_simp; go_at_call 62; (with_reducible refine (KD.out e _ HE5.out ?_).mono ?_); (exact (h5.step (by (repeat (first | with_reducible assumption | exact Below.refl _ _ | (refine Below.setCell ?_ (by first | exact Nat.le_refl _ | (simp; done) | omega | (simp; omega)) _) | (refine below_drewN ?_ _) | (refine Below.drew ?_) | (refine Below.alloc ?_ (by first | exact Nat.le_refl _ | (simp; done) | omega | (simp; omega)) _) | (refine then_ ?_ (by with_reducible assumption)) | assumption | (refine then_ ?_ (by assumption)))))).own.rd); rintro r w7 ⟨⟨u, b, S7, B7, L7, k7, d7, q7, hd7, rfl, own7⟩, hb7⟩; have h7 := (h5.step (show Below w5.heap.size w5 w7 from then_ (by (repeat (first | with_reducible assumption | exact Below.refl _ _ | (refine Below.setCell ?_ (by first | exact Nat.le_refl _ | (simp; done) | omega | (simp; omega)) _) | (refine below_drewN ?_ _) | (refine Below.drew ?_) | (refine Below.alloc ?_ (by first | exact Nat.le_refl _ | (simp; done) | omega | (simp; omega)) _) | (refine then_ ?_ (by with_reducible assumption)) | assumption | (refine then_ ?_ (by assumption))))) hb7)).own' own7 (by have := h5.hy; have := h5.lt; show w.heap.size + 1 ≤ w5.heap.size; omega) h5.lt; have HU := Lib.hid hd7; clear own7 hd7; have lyw := h7.lt; have f0 := h7.fx 0; have f1 := h7.fx 1; have f2 := h7.fx 2; have f3 := h7.fx 3; have f4 := h7.fx 4; have f5 := h7.fx 5; have f6 := h7.fx 6; have f7 := h7.fx 7; have f8 := h7.fx 8; have f9 := h7.fx 9; have f10 := h7.fx 10; have f11 := h7.fx 11; have e0 := h7.cx 0 _ rfl; have e1 := h7.cx 1 _ rfl; have e2 := h7.cx 2 _ rfl; have e3 := h7.cx 3 _ rfl; have e4 := h7.cx 4 _ rfl; have e5 := h7.cx 5 _ rfl; have e6 := h7.cx 6 _ rfl; have e7 := h7.cx 7 _ rfl; have e8 := h7.cx 8 _ rfl; have e9 := h7.cx 9 _ rfl; have e10 := h7.cx 10 _ rfl; have e11 := h7.cx 11 _ rfl; have H7 := Lib.hid h7; clear h7)))
      all_goals
        clear h5 KE KD
        go_wp2_with fail
        go_roundw
        case rel =>
          have hp := ((((((((((((H7.out.put 0 (.int .i64 u.sz)).put 1 (.float .f32 u.st)).put 2 (.float .f32 u.li.1)).put 3 (.float .f32 u.li.2.1)).put 4 (.float .f32 u.li.2.2)).put 5 (.slice S7 u.sh.length k7)).put 6 (.int .i64 u.mir)).put 7 (.complex .f32 u.gr.1 u.gr.2)).put 8 (.float .f32 u.loss)).put 9 (.slice B7 u.bs.length d7)).put 10 (.int .i64 u.tk)).put 11 (.slice L7 u.log.length q7))
          exact ⟨j - 1, u, S7, B7, L7, k7, d7, q7, by omega, by rw [show ((j - 1 : Nat) : Int) = (j : Int) - 1 by omega], HU.out, hp⟩
        case measure => simp [intOf]; omega
    · obtain rfl : j = 0 := by omega
      have a0 := h.cx 0 _ rfl; have a1 := h.cx 1 _ rfl; have a2 := h.cx 2 _ rfl; have a3 := h.cx 3 _ rfl; have a4 := h.cx 4 _ rfl; have a5 := h.cx 5 _ rfl; have a6 := h.cx 6 _ rfl; have a7 := h.cx 7 _ rfl; have a8 := h.cx 8 _ rfl; have a9 := h.cx 9 _ rfl; have a10 := h.cx 10 _ rfl; have a11 := h.cx 11 _ rfl
      have o0 := h.co 0 _ rfl; have o1 := h.co 1 _ rfl; have o2 := h.co 2 _ rfl; have o3 := h.co 3 _ rfl; have o4 := h.co 4 _ rfl; have o5 := h.co 5 _ rfl; have o6 := h.co 6 _ rfl; have o7 := h.co 7 _ rfl; have o8 := h.co 8 _ rfl; have o9 := h.co 9 _ rfl; have o10 := h.co 10 _ rfl; have o11 := h.co 11 _ rfl
      have f0 := h.fo 0; have f1 := h.fo 1; have f2 := h.fo 2; have f3 := h.fo 3; have f4 := h.fo 4; have f5 := h.fo 5; have f6 := h.fo 6; have f7 := h.fo 7; have f8 := h.fo 8; have f9 := h.fo 9; have f10 := h.fo 10; have f11 := h.fo 11
      have lo : w.heap.size < wr.heap.size := by have := h.hy; have := h.lt; omega
      have hz := (⟨h.co, h.cur, h.gr, h.hg, h.own⟩ : CA wr w.heap.size shw0 ∧ CurB wr g A m c bs ∧ w.grownBy wr (some g) ∧ g < w.heap.size ∧ OwnS wr (w.heap.size + 1) t S B L k d q)
      replace hz := DrW.puto (DrW.puto (DrW.puto (DrW.puto (DrW.puto (DrW.puto (DrW.puto (DrW.puto (DrW.puto (DrW.puto (DrW.puto (DrW.puto hz 0 (.int .i64 t.sz)) 1 (.float .f32 t.st)) 2 (.float .f32 t.li.1)) 3 (.float .f32 t.li.2.1)) 4 (.float .f32 t.li.2.2)) 5 (.slice S t.sh.length k)) 6 (.int .i64 t.mir)) 7 (.complex .f32 t.gr.1 t.gr.2)) 8 (.float .f32 t.loss)) 9 (.slice B t.bs.length d)) 10 (.int .i64 t.tk)) 11 (.slice L t.log.length q)
      have HZ := Lib.hid hz
      have HT := Lib.hid HTt
      clear h hz HTt
      go_wp2
      have hz := HZ.out
      have z0 := hz.1 0 _ rfl; have z1 := hz.1 1 _ rfl; have z2 := hz.1 2 _ rfl; have z3 := hz.1 3 _ rfl; have z4 := hz.1 4 _ rfl; have z5 := hz.1 5 _ rfl; have z6 := hz.1 6 _ rfl; have z7 := hz.1 7 _ rfl; have z8 := hz.1 8 _ rfl; have z9 := hz.1 9 _ rfl; have z10 := hz.1 10 _ rfl; have z11 := hz.1 11 _ rfl
      exact bodyPost_ret (v := .agg #[.int .i64 t.sz, .float .f32 t.st, .float .f32 t.li.1, .float .f32 t.li.2.1, .float .f32 t.li.2.2, .slice S t.sh.length k, .int .i64 t.mir, .complex .f32 t.gr.1 t.gr.2, .float .f32 t.loss, .slice B t.bs.length d, .int .i64 t.tk, .slice L t.log.length q]) (by simp [results, Tryz.results28, go_sem, z0, z1, z2, z3, z4, z5, z6, z7, z8, z9, z10, z11]) rfl ⟨t, S, B, L, k, d, q, HT.out, rfl, hz.2.2.2.2.mono (by omega), hz.2.1, hz.2.2.1⟩
end Go.Proofs.YthlphmojldbpkaaGreat
