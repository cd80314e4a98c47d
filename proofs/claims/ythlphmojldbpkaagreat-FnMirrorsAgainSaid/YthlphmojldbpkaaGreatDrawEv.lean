
/- l6Event: an event that a show may do. -/
import Derived.Test.YthlphmojldbpkaaGreatM6
import Derived.Test.YthlphmojldbpkaaGreatM3
namespace Go.Proofs.YthlphmojldbpkaaGreat
open Go.RowKit
attribute [local go_sem] run_store_float run_store_complex

/-- the answer's box beside the cursor -/
structure EvW (W0 : World) (g : Nat) (A : Option Addr) (m c : Nat) (bs : List Int) (o : List Value) (W : World) : Prop where
  co : CA W (W0.heap.size + 1) o
  fo : FA W (W0.heap.size + 1)
  lt : W0.heap.size + 1 < W.heap.size
  cur : CurB W g A m c bs
  gr : W0.grownBy W (some g)
  hg : g < W0.heap.size
theorem EvW.call {W0 W W' : World} {g : Nat} {A : Option Addr} {m c : Nat} {bs : List Int} {o : List Value} (h : EvW W0 g A m c bs o W) (hc : CurB W' g A m c bs) (hg : W.grownBy W' (some g)) : EvW W0 g A m c bs o W' :=
  have ne : ∀ k, some g = some k → W0.heap.size + 1 ≠ k := fun k e => by injection e with e; have := h.hg; omega
  ⟨h.co.grown hg ne, h.fo.grown h.lt hg ne, Nat.lt_of_lt_of_le h.lt hg.size, hc, grown_trans h.gr hg, h.hg⟩
theorem EvW.step {W0 W W' : World} {g : Nat} {A : Option Addr} {m c : Nat} {bs : List Int} {o : List Value} (h : EvW W0 g A m c bs o W) (hb : Below W.heap.size W W') : EvW W0 g A m c bs o W' :=
  h.call (h.cur.step hb) (grown_of_below hb _)
theorem EvW.puto {W0 W : World} {g : Nat} {A : Option Addr} {m c : Nat} {bs : List Int} {o : List Value} (h : EvW W0 g A m c bs o W) (i : Nat) (u : Value) : EvW W0 g A m c bs (o.set i u) (W.setCell ⟨W0.heap.size + 1, i, none⟩ u) :=
  ⟨h.co.put i u, h.fo.set _ _, by have := h.lt; simp [World.setCell]; omega, curB_set h.cur (by have := h.hg; show g < W0.heap.size + 1; omega) _, grown_new h.gr (by show W0.heap.size ≤ W0.heap.size + 1; omega) _, h.hg⟩
theorem evW_new {w : World} {g : Nat} {A : Option Addr} {m c : Nat} {bs : List Int} (l o : Array Value) (t1 t2 : TypeId) (hc : CurB w g A m c bs) (hg : g < w.heap.size) : EvW w g A m c bs o.toList ((w.alloc (Obj.cells l t1)).alloc (Obj.cells o t2)) := by
  have z1 : (w.alloc (Obj.cells l t1)).heap.size = w.heap.size + 1 := by simp
  have hb : Below w.heap.size w ((w.alloc (Obj.cells l t1)).alloc (Obj.cells o t2)) := by (repeat (first | with_reducible assumption | exact Below.refl _ _ | (refine Below.setCell ?_ (by first | exact Nat.le_refl _ | (simp; done) | omega | (simp; omega)) _) | (refine below_drewN ?_ _) | (refine Below.drew ?_) | (refine Below.alloc ?_ (by first | exact Nat.le_refl _ | (simp; done) | omega | (simp; omega)) _) | (refine then_ ?_ (by with_reducible assumption)) | assumption | (refine then_ ?_ (by assumption))))
  refine ⟨?_, ?_, by simp, hc.step hb, grown_of_below hb _, hg⟩
  · rw [← z1]; exact CA.new _ o t2
  · rw [← z1]; exact FA.new _ o t2
def evZ : List Value := [.int .i64 0, .int .i64 0, .complex .f32 0 0, .complex .f32 0 0, .complex .f32 0 0, .complex .f32 0 0, .float .f32 0, .float .f32 0, .float .f32 0, .float .f32 0, .float .f32 0, .float .f32 0, .float .f32 0]
set_option maxRecDepth 100000 in
set_option maxHeartbeats 8000000 in
theorem l6EventC (g : Nat) (A : Option Addr) (m c : Nat) (bs : List Int) (s : Shw) (S B L : Option Addr) (k d q nb nl : Nat) (w : World) (hn : s.sh.length ≤ 200) (hc : CurB w g A m c bs) :
    Calls Tryz.prog 29 #[.pointer (some ⟨g, 0, none⟩), .agg #[.int .i64 s.sz, .float .f32 s.st, .float .f32 s.li.1, .float .f32 s.li.2.1, .float .f32 s.li.2.2, .slice S s.sh.length k, .int .i64 s.mir, .complex .f32 s.gr.1 s.gr.2, .float .f32 s.loss, .slice B nb d, .int .i64 s.tk, .slice L nl q]] w fun r w' => ∃ e : Ev, evG e = true ∧ r = .returned (.agg #[.int .i64 e.k, .int .i64 e.n, .complex .f32 e.z.1 e.z.2, .complex .f32 e.s.1.1 e.s.1.2, .complex .f32 e.s.2.1.1 e.s.2.1.2, .complex .f32 e.s.2.2.1.1 e.s.2.2.1.2, .float .f32 e.s.2.2.2.1.1, .float .f32 e.s.2.2.2.1.2.1, .float .f32 e.s.2.2.2.1.2.2, .float .f32 e.s.2.2.2.2, .float .f32 e.c.1, .float .f32 e.c.2.1, .float .f32 e.c.2.2]) ∧ CurB w' g A m c bs ∧ w.grownBy w' (some g) := by
  have hgw := hc.2.2.1
  obtain ⟨n, hnn⟩ : ∃ n, n = s.sh.length := ⟨_, rfl⟩
  rw [← hnn] at hn ⊢
  clear hnn
  go_enter Tryz.func29, Tryz.ntmps29
  go_upto_region 1 with fail
  have h := evW_new #[.int .i64 s.sz, .float .f32 s.st, .float .f32 s.li.1, .float .f32 s.li.2.1, .float .f32 s.li.2.2, .slice S n k, .int .i64 s.mir, .complex .f32 s.gr.1 s.gr.2, .float .f32 s.loss, .slice B nb d, .int .i64 s.tk, .slice L nl q] #[.int .i64 0, .int .i64 0, .complex .f32 0 0, .complex .f32 0 0, .complex .f32 0 0, .complex .f32 0 0, .float .f32 0, .float .f32 0, .float .f32 0, .float .f32 0, .float .f32 0, .float .f32 0, .float .f32 0] 34 38 hc hgw
  have a5 : ((w.alloc (Obj.cells #[.int .i64 s.sz, .float .f32 s.st, .float .f32 s.li.1, .float .f32 s.li.2.1, .float .f32 s.li.2.2, .slice S n k, .int .i64 s.mir, .complex .f32 s.gr.1 s.gr.2, .float .f32 s.loss, .slice B nb d, .int .i64 s.tk, .slice L nl q] 34)).alloc (Obj.cells #[.int .i64 0, .int .i64 0, .complex .f32 0 0, .complex .f32 0 0, .complex .f32 0 0, .complex .f32 0 0, .float .f32 0, .float .f32 0, .float .f32 0, .float .f32 0, .float .f32 0, .float .f32 0, .float .f32 0] 38)).cell? ⟨w.heap.size, 5, none⟩ = some (.slice S n k) := ((CA.new w _ _).alloc _) 5 _ rfl
  obtain ⟨V, hVe⟩ : ∃ V, V = (w.alloc (Obj.cells #[.int .i64 s.sz, .float .f32 s.st, .float .f32 s.li.1, .float .f32 s.li.2.1, .float .f32 s.li.2.2, .slice S n k, .int .i64 s.mir, .complex .f32 s.gr.1 s.gr.2, .float .f32 s.loss, .slice B nb d, .int .i64 s.tk, .slice L nl q] 34)).alloc (Obj.cells #[.int .i64 0, .int .i64 0, .complex .f32 0 0, .complex .f32 0 0, .complex .f32 0 0, .complex .f32 0 0, .float .f32 0, .float .f32 0, .float .f32 0, .float .f32 0, .float .f32 0, .float .f32 0, .float .f32 0] 38) := ⟨_, rfl⟩
  rw [← hVe] at h a5
  rw [← hVe]
  clear hVe hc
  go_wp2_with fail
  (with_reducible refine (l1BelowC g A m c bs 11 _ (by omega) (by omega) h.cur).mono ?_)
  rintro r w1 ⟨y, hy, rfl, hc1, hg1⟩
  replace h := h.call hc1 hg1
  clear hc1 hg1 a5
  have hy' : y = 0 ∨ y = 1 ∨ y = 2 ∨ y = 3 ∨ y = 4 ∨ y = 5 ∨ y = 6 ∨ y = 7 ∨ y = 8 ∨ y = 9 ∨ y = 10 := by omega
  clear hy
  have arms : (y = 0 ∨ y = 1 ∨ y = 2) ∨ y = 3 ∨ y = 4 ∨ y = 5 ∨ y = 6 ∨ (y = 7 ∨ y = 8) ∨ (y = 9 ∨ y = 10) := by omega
  clear hy'
  rcases arms with e | e | e | e | e | e | e
  · rcases e with rfl | rfl | rfl
    all_goals
      go_wp2_with fail
      (with_reducible refine (l3DrawC g A m c bs _ h.cur).mono ?_)
      rintro r w2 ⟨a, b, e, cr, cq, cl, ck, hok, rfl, hc2, hg2⟩
      replace h := h.call hc2 hg2
      have HOK := Lib.hid hok
      clear hc2 hg2 hok
      go_wp2_with fail
      (with_reducible refine (l1Fine16C g A m c bs _ h.cur).mono ?_)
      rintro r w3 ⟨x, hx, rfl, hc3, hg3⟩
      replace h := h.call hc3 hg3
      obtain ⟨q1, q2⟩ := sixOk_spec hx
      have Q2 := Lib.hid q2
      generalize sixW x = x' at q1 Q2
      have hq := fun wx => run_float_arith (P := Tryz.prog) wx .quo 24 .f32 x 1098907648 x' q1
      clear hc3 hg3 hx q1 q2
      go_wp2_with fail
      (with_reducible refine (l1Fine16C g A m c bs _ h.cur).mono ?_)
      rintro r w4 ⟨y, hy, rfl, hc4, hg4⟩
      replace h := h.call hc4 hg4
      obtain ⟨q1, q2⟩ := sixOk_spec hy
      have Q3 := Lib.hid q2
      generalize sixW y = y' at q1 Q3
      have hq2 := fun wx => run_float_arith (P := Tryz.prog) wx .quo 24 .f32 y 1098907648 y' q1
      clear hc4 hg4 hy q1 q2

      have o0 := h.co 0 _ rfl; have o1 := h.co 1 _ rfl; have o2 := h.co 2 _ rfl; have o3 := h.co 3 _ rfl; have o4 := h.co 4 _ rfl; have o5 := h.co 5 _ rfl; have o6 := h.co 6 _ rfl; have o7 := h.co 7 _ rfl; have o8 := h.co 8 _ rfl; have o9 := h.co 9 _ rfl; have o10 := h.co 10 _ rfl; have o11 := h.co 11 _ rfl; have o12 := h.co 12 _ rfl
      have f0 := h.fo 0; have f1 := h.fo 1; have f2 := h.fo 2; have f3 := h.fo 3; have f4 := h.fo 4; have f5 := h.fo 5; have f6 := h.fo 6; have f7 := h.fo 7; have f8 := h.fo 8; have f9 := h.fo 9; have f10 := h.fo 10; have f11 := h.fo 11; have f12 := h.fo 12
      have lo := h.lt
      have HH := Lib.hid h
      clear h
      go_wp2
      have hz := (((((((((((((HH.out.puto 0 (.int .i64 1)).puto 1 (.int .i64 0)).puto 2 (.complex .f32 x' y')).puto 3 (.complex .f32 a.1 a.2)).puto 4 (.complex .f32 b.1 b.2)).puto 5 (.complex .f32 e.1 e.2)).puto 6 (.float .f32 cr)).puto 7 (.float .f32 cq)).puto 8 (.float .f32 cl)).puto 9 (.float .f32 ck)).puto 10 (.float .f32 0)).puto 11 (.float .f32 0)).puto 12 (.float .f32 0))
      have z0 := hz.co 0 _ rfl; have z1 := hz.co 1 _ rfl; have z2 := hz.co 2 _ rfl; have z3 := hz.co 3 _ rfl; have z4 := hz.co 4 _ rfl; have z5 := hz.co 5 _ rfl; have z6 := hz.co 6 _ rfl; have z7 := hz.co 7 _ rfl; have z8 := hz.co 8 _ rfl; have z9 := hz.co 9 _ rfl; have z10 := hz.co 10 _ rfl; have z11 := hz.co 11 _ rfl; have z12 := hz.co 12 _ rfl
      exact bodyPost_ret (v := .agg #[.int .i64 1, .int .i64 0, .complex .f32 x' y', .complex .f32 a.1 a.2, .complex .f32 b.1 b.2, .complex .f32 e.1 e.2, .float .f32 cr, .float .f32 cq, .float .f32 cl, .float .f32 ck, .float .f32 0, .float .f32 0, .float .f32 0]) (by simp [results, Tryz.results29, go_sem, z0, z1, z2, z3, z4, z5, z6, z7, z8, z9, z10, z11, z12]) rfl ⟨.add (a, b, e, (cr, cq, cl), ck) (x', y'), (by simp only [evG]; rw [HOK.out, Q2.out, Q3.out]; rfl), rfl, hz.cur, hz.gr⟩
  · subst e
    have e1 : IntKind.i64.wrap ((n : Int) + 1) = (n : Int) + 1 := by rw [IntKind.wrap_i64]; omega
    go_wp2_with fail
    (with_reducible refine (l1BelowC g A m c bs ((n : Int) + 1) _ (by omega) (by omega) h.cur).mono ?_)
    rintro r w2 ⟨y, hy, rfl, hc2, hg2⟩
    replace h := h.call hc2 hg2
    clear hc2 hg2 hy

    have o0 := h.co 0 _ rfl; have o1 := h.co 1 _ rfl; have o2 := h.co 2 _ rfl; have o3 := h.co 3 _ rfl; have o4 := h.co 4 _ rfl; have o5 := h.co 5 _ rfl; have o6 := h.co 6 _ rfl; have o7 := h.co 7 _ rfl; have o8 := h.co 8 _ rfl; have o9 := h.co 9 _ rfl; have o10 := h.co 10 _ rfl; have o11 := h.co 11 _ rfl; have o12 := h.co 12 _ rfl
    have f0 := h.fo 0; have f1 := h.fo 1; have f2 := h.fo 2; have f3 := h.fo 3; have f4 := h.fo 4; have f5 := h.fo 5; have f6 := h.fo 6; have f7 := h.fo 7; have f8 := h.fo 8; have f9 := h.fo 9; have f10 := h.fo 10; have f11 := h.fo 11; have f12 := h.fo 12
    have lo := h.lt
    have HH := Lib.hid h
    clear h
    go_wp2
    have hz := (((((((((((((HH.out.puto 0 (.int .i64 2)).puto 1 (.int .i64 (y : Int))).puto 2 (.complex .f32 0 0)).puto 3 (.complex .f32 0 0)).puto 4 (.complex .f32 0 0)).puto 5 (.complex .f32 0 0)).puto 6 (.float .f32 0)).puto 7 (.float .f32 0)).puto 8 (.float .f32 0)).puto 9 (.float .f32 0)).puto 10 (.float .f32 0)).puto 11 (.float .f32 0)).puto 12 (.float .f32 0))
    have z0 := hz.co 0 _ rfl; have z1 := hz.co 1 _ rfl; have z2 := hz.co 2 _ rfl; have z3 := hz.co 3 _ rfl; have z4 := hz.co 4 _ rfl; have z5 := hz.co 5 _ rfl; have z6 := hz.co 6 _ rfl; have z7 := hz.co 7 _ rfl; have z8 := hz.co 8 _ rfl; have z9 := hz.co 9 _ rfl; have z10 := hz.co 10 _ rfl; have z11 := hz.co 11 _ rfl; have z12 := hz.co 12 _ rfl
    exact bodyPost_ret (v := .agg #[.int .i64 2, .int .i64 (y : Int), .complex .f32 0 0, .complex .f32 0 0, .complex .f32 0 0, .complex .f32 0 0, .float .f32 0, .float .f32 0, .float .f32 0, .float .f32 0, .float .f32 0, .float .f32 0, .float .f32 0]) (by simp [results, Tryz.results29, go_sem, z0, z1, z2, z3, z4, z5, z6, z7, z8, z9, z10, z11, z12]) rfl ⟨.take (y : Int), rfl, rfl, hz.cur, hz.gr⟩
  · subst e
    go_wp2_with fail
    (with_reducible refine (l2DrawC g A m c bs _ h.cur).mono ?_)
    rintro r w2 ⟨cr, cq, cl, hcol, rfl, hc2, hg2⟩
    replace h := h.call hc2 hg2
    have HCOL := Lib.hid hcol
    clear hc2 hg2 hcol

    have o0 := h.co 0 _ rfl; have o1 := h.co 1 _ rfl; have o2 := h.co 2 _ rfl; have o3 := h.co 3 _ rfl; have o4 := h.co 4 _ rfl; have o5 := h.co 5 _ rfl; have o6 := h.co 6 _ rfl; have o7 := h.co 7 _ rfl; have o8 := h.co 8 _ rfl; have o9 := h.co 9 _ rfl; have o10 := h.co 10 _ rfl; have o11 := h.co 11 _ rfl; have o12 := h.co 12 _ rfl
    have f0 := h.fo 0; have f1 := h.fo 1; have f2 := h.fo 2; have f3 := h.fo 3; have f4 := h.fo 4; have f5 := h.fo 5; have f6 := h.fo 6; have f7 := h.fo 7; have f8 := h.fo 8; have f9 := h.fo 9; have f10 := h.fo 10; have f11 := h.fo 11; have f12 := h.fo 12
    have lo := h.lt
    have HH := Lib.hid h
    clear h
    go_wp2
    have hz := (((((((((((((HH.out.puto 0 (.int .i64 3)).puto 1 (.int .i64 0)).puto 2 (.complex .f32 0 0)).puto 3 (.complex .f32 0 0)).puto 4 (.complex .f32 0 0)).puto 5 (.complex .f32 0 0)).puto 6 (.float .f32 0)).puto 7 (.float .f32 0)).puto 8 (.float .f32 0)).puto 9 (.float .f32 0)).puto 10 (.float .f32 cr)).puto 11 (.float .f32 cq)).puto 12 (.float .f32 cl))
    have z0 := hz.co 0 _ rfl; have z1 := hz.co 1 _ rfl; have z2 := hz.co 2 _ rfl; have z3 := hz.co 3 _ rfl; have z4 := hz.co 4 _ rfl; have z5 := hz.co 5 _ rfl; have z6 := hz.co 6 _ rfl; have z7 := hz.co 7 _ rfl; have z8 := hz.co 8 _ rfl; have z9 := hz.co 9 _ rfl; have z10 := hz.co 10 _ rfl; have z11 := hz.co 11 _ rfl; have z12 := hz.co 12 _ rfl
    exact bodyPost_ret (v := .agg #[.int .i64 3, .int .i64 0, .complex .f32 0 0, .complex .f32 0 0, .complex .f32 0 0, .complex .f32 0 0, .float .f32 0, .float .f32 0, .float .f32 0, .float .f32 0, .float .f32 cr, .float .f32 cq, .float .f32 cl]) (by simp [results, Tryz.results29, go_sem, z0, z1, z2, z3, z4, z5, z6, z7, z8, z9, z10, z11, z12]) rfl ⟨.light (cr, cq, cl), HCOL.out, rfl, hz.cur, hz.gr⟩
  · subst e
    go_wp2_with fail
    have hl : ∀ y, y < 5 → ∃ x, True ∧ (w1.alloc (Obj.cells #[.int .i64 0, .int .i64 1, .int .i64 2, .int .i64 3, .int .i64 3] 3)).cell? ⟨w1.heap.size, y, none⟩ = some (.int .i64 x) := by
      intro y hy
      have e : y = 0 ∨ y = 1 ∨ y = 2 ∨ y = 3 ∨ y = 4 := by omega
      rcases e with rfl | rfl | rfl | rfl | rfl
      · exact ⟨0, trivial, by simp [go_sem]⟩
      · exact ⟨1, trivial, by simp [go_sem]⟩
      · exact ⟨2, trivial, by simp [go_sem]⟩
      · exact ⟨3, trivial, by simp [go_sem]⟩
      · exact ⟨3, trivial, by simp [go_sem]⟩
    have hne : w1.heap.size ≠ g := by have := h.cur.2.2.1; omega
    have hbW : Below w1.heap.size w1 (w1.alloc (Obj.cells #[.int .i64 0, .int .i64 1, .int .i64 2, .int .i64 3, .int .i64 3] 3)) := by (repeat (first | with_reducible assumption | exact Below.refl _ _ | (refine Below.setCell ?_ (by first | exact Nat.le_refl _ | (simp; done) | omega | (simp; omega)) _) | (refine below_drewN ?_ _) | (refine Below.drew ?_) | (refine Below.alloc ?_ (by first | exact Nat.le_refl _ | (simp; done) | omega | (simp; omega)) _) | (refine then_ ?_ (by with_reducible assumption)) | assumption | (refine then_ ?_ (by assumption))))
    replace h := h.step hbW
    have zW : w1.heap.size < (w1.alloc (Obj.cells #[.int .i64 0, .int .i64 1, .int .i64 2, .int .i64 3, .int .i64 3] 3)).heap.size := by simp
    obtain ⟨W, hWe⟩ : ∃ W, W = w1.alloc (Obj.cells #[.int .i64 0, .int .i64 1, .int .i64 2, .int .i64 3, .int .i64 3] 3) := ⟨_, rfl⟩
    rw [← hWe] at h hl zW
    rw [← hWe]
    clear hWe hbW
    (with_reducible refine (l1IntC (fun _ => True) g w1.heap.size 5 5 A m c bs _ h.cur (by omega) (by omega) zW hne hl).mono ?_)
    rintro r w2 ⟨y, -, rfl, hc2, hg2⟩
    replace h := h.call hc2 hg2
    clear hc2 hg2 hl zW hne

    have o0 := h.co 0 _ rfl; have o1 := h.co 1 _ rfl; have o2 := h.co 2 _ rfl; have o3 := h.co 3 _ rfl; have o4 := h.co 4 _ rfl; have o5 := h.co 5 _ rfl; have o6 := h.co 6 _ rfl; have o7 := h.co 7 _ rfl; have o8 := h.co 8 _ rfl; have o9 := h.co 9 _ rfl; have o10 := h.co 10 _ rfl; have o11 := h.co 11 _ rfl; have o12 := h.co 12 _ rfl
    have f0 := h.fo 0; have f1 := h.fo 1; have f2 := h.fo 2; have f3 := h.fo 3; have f4 := h.fo 4; have f5 := h.fo 5; have f6 := h.fo 6; have f7 := h.fo 7; have f8 := h.fo 8; have f9 := h.fo 9; have f10 := h.fo 10; have f11 := h.fo 11; have f12 := h.fo 12
    have lo := h.lt
    have HH := Lib.hid h
    clear h
    go_wp2
    have hz := (((((((((((((HH.out.puto 0 (.int .i64 4)).puto 1 (.int .i64 y)).puto 2 (.complex .f32 0 0)).puto 3 (.complex .f32 0 0)).puto 4 (.complex .f32 0 0)).puto 5 (.complex .f32 0 0)).puto 6 (.float .f32 0)).puto 7 (.float .f32 0)).puto 8 (.float .f32 0)).puto 9 (.float .f32 0)).puto 10 (.float .f32 0)).puto 11 (.float .f32 0)).puto 12 (.float .f32 0))
    have z0 := hz.co 0 _ rfl; have z1 := hz.co 1 _ rfl; have z2 := hz.co 2 _ rfl; have z3 := hz.co 3 _ rfl; have z4 := hz.co 4 _ rfl; have z5 := hz.co 5 _ rfl; have z6 := hz.co 6 _ rfl; have z7 := hz.co 7 _ rfl; have z8 := hz.co 8 _ rfl; have z9 := hz.co 9 _ rfl; have z10 := hz.co 10 _ rfl; have z11 := hz.co 11 _ rfl; have z12 := hz.co 12 _ rfl
    exact bodyPost_ret (v := .agg #[.int .i64 4, .int .i64 y, .complex .f32 0 0, .complex .f32 0 0, .complex .f32 0 0, .complex .f32 0 0, .float .f32 0, .float .f32 0, .float .f32 0, .float .f32 0, .float .f32 0, .float .f32 0, .float .f32 0]) (by simp [results, Tryz.results29, go_sem, z0, z1, z2, z3, z4, z5, z6, z7, z8, z9, z10, z11, z12]) rfl ⟨.mirrors y, rfl, rfl, hz.cur, hz.gr⟩
  · subst e
    go_wp2_with fail
    (with_reducible refine (l1SomeN g A m c bs (-4) 4 _ (by omega) (by omega) (by omega) (by omega) h.cur).mono ?_)
    rintro r w2 ⟨x, x0, x1, rfl, hc2, hg2⟩
    replace h := h.call hc2 hg2
    obtain ⟨k1, k2, _⟩ := quoOk_spec (at_shift fine_16 rfl (by omega) (show (-640 : Int) ≤ x by omega) (show x ≤ 640 by omega))
    have Q2 := Lib.hid (okW_reach k2)
    obtain ⟨x', hx'⟩ : ∃ r, r = quoW x 1098907648 := ⟨_, rfl⟩
    rw [← hx'] at k1 Q2
    have hq := fun wx => run_float_arith (P := Tryz.prog) wx .quo 24 .f32 (fl x) 1098907648 x' k1
    unfold fl at hq
    clear hc2 hg2 k1 k2 hx'

    go_wp2_with fail
    (with_reducible refine (l1SomeN g A m c bs (-4) 4 _ (by omega) (by omega) (by omega) (by omega) h.cur).mono ?_)
    rintro r w3 ⟨y, y0, y1, rfl, hc2, hg2⟩
    replace h := h.call hc2 hg2
    obtain ⟨k1, k2, _⟩ := quoOk_spec (at_shift fine_16 rfl (by omega) (show (-640 : Int) ≤ y by omega) (show y ≤ 640 by omega))
    have Q3 := Lib.hid (okW_reach k2)
    obtain ⟨y', hy'⟩ : ∃ r, r = quoW y 1098907648 := ⟨_, rfl⟩
    rw [← hy'] at k1 Q3
    have hq2 := fun wx => run_float_arith (P := Tryz.prog) wx .quo 24 .f32 (fl y) 1098907648 y' k1
    unfold fl at hq2
    clear hc2 hg2 k1 k2 hy'

    have o0 := h.co 0 _ rfl; have o1 := h.co 1 _ rfl; have o2 := h.co 2 _ rfl; have o3 := h.co 3 _ rfl; have o4 := h.co 4 _ rfl; have o5 := h.co 5 _ rfl; have o6 := h.co 6 _ rfl; have o7 := h.co 7 _ rfl; have o8 := h.co 8 _ rfl; have o9 := h.co 9 _ rfl; have o10 := h.co 10 _ rfl; have o11 := h.co 11 _ rfl; have o12 := h.co 12 _ rfl
    have f0 := h.fo 0; have f1 := h.fo 1; have f2 := h.fo 2; have f3 := h.fo 3; have f4 := h.fo 4; have f5 := h.fo 5; have f6 := h.fo 6; have f7 := h.fo 7; have f8 := h.fo 8; have f9 := h.fo 9; have f10 := h.fo 10; have f11 := h.fo 11; have f12 := h.fo 12
    have lo := h.lt
    have HH := Lib.hid h
    clear h
    go_wp2
    have hz := (((((((((((((HH.out.puto 0 (.int .i64 5)).puto 1 (.int .i64 0)).puto 2 (.complex .f32 x' y')).puto 3 (.complex .f32 0 0)).puto 4 (.complex .f32 0 0)).puto 5 (.complex .f32 0 0)).puto 6 (.float .f32 0)).puto 7 (.float .f32 0)).puto 8 (.float .f32 0)).puto 9 (.float .f32 0)).puto 10 (.float .f32 0)).puto 11 (.float .f32 0)).puto 12 (.float .f32 0))
    have z0 := hz.co 0 _ rfl; have z1 := hz.co 1 _ rfl; have z2 := hz.co 2 _ rfl; have z3 := hz.co 3 _ rfl; have z4 := hz.co 4 _ rfl; have z5 := hz.co 5 _ rfl; have z6 := hz.co 6 _ rfl; have z7 := hz.co 7 _ rfl; have z8 := hz.co 8 _ rfl; have z9 := hz.co 9 _ rfl; have z10 := hz.co 10 _ rfl; have z11 := hz.co 11 _ rfl; have z12 := hz.co 12 _ rfl
    exact bodyPost_ret (v := .agg #[.int .i64 5, .int .i64 0, .complex .f32 x' y', .complex .f32 0 0, .complex .f32 0 0, .complex .f32 0 0, .float .f32 0, .float .f32 0, .float .f32 0, .float .f32 0, .float .f32 0, .float .f32 0, .float .f32 0]) (by simp [results, Tryz.results29, go_sem, z0, z1, z2, z3, z4, z5, z6, z7, z8, z9, z10, z11, z12]) rfl ⟨.gravity (x', y'), (by simp only [evG]; unfold pointB; rw [Q2.out, Q3.out]; rfl), rfl, hz.cur, hz.gr⟩
  · rcases e with rfl | rfl
    all_goals
      have e1 : IntKind.i64.wrap ((n : Int) + 1) = (n : Int) + 1 := by rw [IntKind.wrap_i64]; omega
      go_wp2_with fail
      (with_reducible refine (l1BelowC g A m c bs ((n : Int) + 1) _ (by omega) (by omega) h.cur).mono ?_)
      rintro r w2 ⟨y, hy, rfl, hc2, hg2⟩
      replace h := h.call hc2 hg2
      clear hc2 hg2 hy

      go_wp2_with fail
      (with_reducible refine (l5SpeedC g A m c bs _ h.cur).mono ?_)
      rintro r w3 ⟨⟨vx, vy⟩, hv, rfl, hc3, hg3⟩
      replace h := h.call hc3 hg3
      have HV := Lib.hid hv
      clear hc3 hg3 hv
      dsimp only

      have o0 := h.co 0 _ rfl; have o1 := h.co 1 _ rfl; have o2 := h.co 2 _ rfl; have o3 := h.co 3 _ rfl; have o4 := h.co 4 _ rfl; have o5 := h.co 5 _ rfl; have o6 := h.co 6 _ rfl; have o7 := h.co 7 _ rfl; have o8 := h.co 8 _ rfl; have o9 := h.co 9 _ rfl; have o10 := h.co 10 _ rfl; have o11 := h.co 11 _ rfl; have o12 := h.co 12 _ rfl
      have f0 := h.fo 0; have f1 := h.fo 1; have f2 := h.fo 2; have f3 := h.fo 3; have f4 := h.fo 4; have f5 := h.fo 5; have f6 := h.fo 6; have f7 := h.fo 7; have f8 := h.fo 8; have f9 := h.fo 9; have f10 := h.fo 10; have f11 := h.fo 11; have f12 := h.fo 12
      have lo := h.lt
      have HH := Lib.hid h
      clear h
      go_wp2
      have hz := (((((((((((((HH.out.puto 0 (.int .i64 6)).puto 1 (.int .i64 (y : Int))).puto 2 (.complex .f32 vx vy)).puto 3 (.complex .f32 0 0)).puto 4 (.complex .f32 0 0)).puto 5 (.complex .f32 0 0)).puto 6 (.float .f32 0)).puto 7 (.float .f32 0)).puto 8 (.float .f32 0)).puto 9 (.float .f32 0)).puto 10 (.float .f32 0)).puto 11 (.float .f32 0)).puto 12 (.float .f32 0))
      have z0 := hz.co 0 _ rfl; have z1 := hz.co 1 _ rfl; have z2 := hz.co 2 _ rfl; have z3 := hz.co 3 _ rfl; have z4 := hz.co 4 _ rfl; have z5 := hz.co 5 _ rfl; have z6 := hz.co 6 _ rfl; have z7 := hz.co 7 _ rfl; have z8 := hz.co 8 _ rfl; have z9 := hz.co 9 _ rfl; have z10 := hz.co 10 _ rfl; have z11 := hz.co 11 _ rfl; have z12 := hz.co 12 _ rfl
      exact bodyPost_ret (v := .agg #[.int .i64 6, .int .i64 (y : Int), .complex .f32 vx vy, .complex .f32 0 0, .complex .f32 0 0, .complex .f32 0 0, .float .f32 0, .float .f32 0, .float .f32 0, .float .f32 0, .float .f32 0, .float .f32 0, .float .f32 0]) (by simp [results, Tryz.results29, go_sem, z0, z1, z2, z3, z4, z5, z6, z7, z8, z9, z10, z11, z12]) rfl ⟨.push (y : Int) (vx, vy), (by simp only [evG]; rw [HV.out.1, HV.out.2]; rfl), rfl, hz.cur, hz.gr⟩
  · rcases e with rfl | rfl
    all_goals
      go_wp2_with fail
      (with_reducible refine (l1SomeN g A m c bs 1 6 _ (by omega) (by omega) (by omega) (by omega) h.cur).mono ?_)
      rintro r w2 ⟨y, y0, y1, rfl, hc2, hg2⟩
      replace h := h.call hc2 hg2
      clear hc2 hg2 y0 y1

      have o0 := h.co 0 _ rfl; have o1 := h.co 1 _ rfl; have o2 := h.co 2 _ rfl; have o3 := h.co 3 _ rfl; have o4 := h.co 4 _ rfl; have o5 := h.co 5 _ rfl; have o6 := h.co 6 _ rfl; have o7 := h.co 7 _ rfl; have o8 := h.co 8 _ rfl; have o9 := h.co 9 _ rfl; have o10 := h.co 10 _ rfl; have o11 := h.co 11 _ rfl; have o12 := h.co 12 _ rfl
      have f0 := h.fo 0; have f1 := h.fo 1; have f2 := h.fo 2; have f3 := h.fo 3; have f4 := h.fo 4; have f5 := h.fo 5; have f6 := h.fo 6; have f7 := h.fo 7; have f8 := h.fo 8; have f9 := h.fo 9; have f10 := h.fo 10; have f11 := h.fo 11; have f12 := h.fo 12
      have lo := h.lt
      have HH := Lib.hid h
      clear h
      go_wp2
      have hz := (((((((((((((HH.out.puto 0 (.int .i64 7)).puto 1 (.int .i64 y)).puto 2 (.complex .f32 0 0)).puto 3 (.complex .f32 0 0)).puto 4 (.complex .f32 0 0)).puto 5 (.complex .f32 0 0)).puto 6 (.float .f32 0)).puto 7 (.float .f32 0)).puto 8 (.float .f32 0)).puto 9 (.float .f32 0)).puto 10 (.float .f32 0)).puto 11 (.float .f32 0)).puto 12 (.float .f32 0))
      have z0 := hz.co 0 _ rfl; have z1 := hz.co 1 _ rfl; have z2 := hz.co 2 _ rfl; have z3 := hz.co 3 _ rfl; have z4 := hz.co 4 _ rfl; have z5 := hz.co 5 _ rfl; have z6 := hz.co 6 _ rfl; have z7 := hz.co 7 _ rfl; have z8 := hz.co 8 _ rfl; have z9 := hz.co 9 _ rfl; have z10 := hz.co 10 _ rfl; have z11 := hz.co 11 _ rfl; have z12 := hz.co 12 _ rfl
      exact bodyPost_ret (v := .agg #[.int .i64 7, .int .i64 y, .complex .f32 0 0, .complex .f32 0 0, .complex .f32 0 0, .complex .f32 0 0, .float .f32 0, .float .f32 0, .float .f32 0, .float .f32 0, .float .f32 0, .float .f32 0, .float .f32 0]) (by simp [results, Tryz.results29, go_sem, z0, z1, z2, z3, z4, z5, z6, z7, z8, z9, z10, z11, z12]) rfl ⟨.wait y, rfl, rfl, hz.cur, hz.gr⟩
end Go.Proofs.YthlphmojldbpkaaGreat
