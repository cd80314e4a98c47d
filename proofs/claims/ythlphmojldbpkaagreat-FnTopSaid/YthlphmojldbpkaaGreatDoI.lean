
/- DoEvent: the program's, of good shows and events. -/
import Derived.Test.YthlphmojldbpkaaGreatM15
import Derived.Test.YthlphmojldbpkaaGreatM21
namespace Go.Proofs.YthlphmojldbpkaaGreat
open Go.RowKit
attribute [local go_sem] run_store_float run_store_complex

/-- three boxes of the call's own: a show's, an event's, the answer's -/
structure DS (W0 : World) (e : Ev) (l o : List Value) (W : World) : Prop where
  cx : CA W W0.heap.size l
  cy : CA W (W0.heap.size + 1) (evC e)
  co : CA W (W0.heap.size + 1 + 1) o
  fo : FA W (W0.heap.size + 1 + 1)
  lt : W0.heap.size + 1 + 1 < W.heap.size
  bel : Below W0.heap.size W0 W
theorem ds_new {w : World} (e : Ev) (l o ey : Array Value) (t1 t2 t3 : TypeId) (hy : ey.toList = evC e) : DS w e l.toList o.toList (((w.alloc (Obj.cells l t1)).alloc (Obj.cells ey t2)).alloc (Obj.cells o t3)) := by
  have z1 : (w.alloc (Obj.cells l t1)).heap.size = w.heap.size + 1 := by simp
  have z2 : ((w.alloc (Obj.cells l t1)).alloc (Obj.cells ey t2)).heap.size = w.heap.size + 1 + 1 := by simp
  refine ⟨((CA.new w l t1).alloc _).alloc _, ?_, ?_, ?_, by simp, by (repeat (first | with_reducible assumption | exact Below.refl _ _ | (refine Below.setCell ?_ (by first | exact Nat.le_refl _ | (simp; done) | omega | (simp; omega)) _) | (refine below_drewN ?_ _) | (refine Below.drew ?_) | (refine Below.alloc ?_ (by first | exact Nat.le_refl _ | (simp; done) | omega | (simp; omega)) _) | (refine then_ ?_ (by with_reducible assumption)) | assumption | (refine then_ ?_ (by assumption))))⟩
  · rw [← hy, ← z1]; exact (CA.new _ ey t2).alloc _
  · rw [← z2]; exact CA.new _ o t3
  · rw [← z2]; exact FA.new _ o t3
theorem DS.step {W0 W W' : World} {e : Ev} {l o : List Value} (h : DS W0 e l o W) (hb : Below W.heap.size W W') : DS W0 e l o W' :=
  ⟨h.cx.keep hb, h.cy.keep hb, h.co.keep hb, h.fo.keep hb h.lt, Nat.lt_of_lt_of_le h.lt hb.size, then_ h.bel hb⟩
theorem DS.puto {W0 W : World} {e : Ev} {l o : List Value} (h : DS W0 e l o W) (i : Nat) (u : Value) : DS W0 e l (o.set i u) (W.setCell ⟨W0.heap.size + 1 + 1, i, none⟩ u) :=
  ⟨h.cx.other ⟨W0.heap.size + 1 + 1, i, none⟩ u (by show ¬ W0.heap.size = W0.heap.size + 1 + 1; omega), h.cy.other ⟨W0.heap.size + 1 + 1, i, none⟩ u (by show ¬ W0.heap.size + 1 = W0.heap.size + 1 + 1; omega), h.co.put i u, h.fo.set _ _, by have := h.lt; simp [World.setCell]; omega, h.bel.setCell (p := ⟨W0.heap.size + 1 + 1, i, none⟩) (by show W0.heap.size ≤ W0.heap.size + 1 + 1; omega) u⟩
theorem CA.belB {w w' : World} {b B : Nat} {l : List Value} (h : CA w b l) (hb : Below B w w') (hl : b < B) : CA w' b l := fun i v hv => (hb.cell (p := ⟨b, i, none⟩) hl).trans (h i v hv)
theorem FA.belB {w w' : World} {b B : Nat} (h : FA w b) (hb : Below B w w') (hl : b < B) : FA w' b := fun j => (hb.frozen (p := ⟨b, j, none⟩) hl).trans (h j)
theorem CA.far {w w' : World} {b B : Nat} {O : Nat → Prop} {l : List Value} (h : CA w b l) (hb : BelF B O w w') (hl : b < w.heap.size) (ho : ¬ O b) : CA w' b l := fun i v hv => (World.cell?_of_block (a := ⟨b, i, none⟩) (hb.far b hl ho)).trans (h i v hv)
theorem FA.far {w w' : World} {b B : Nat} {O : Nat → Prop} (h : FA w b) (hb : BelF B O w w') (hl : b < w.heap.size) (ho : ¬ O b) : FA w' b := fun j => (World.frozen?_of_block (a := ⟨b, j, none⟩) (hb.far b hl ho)).trans (h j)
theorem ownB_lt {w : World} {base : Nat} {s : Shw} {A B L : Option Addr} {c d q b : Nat} (h : OwnS w base s A B L c d q) (hb : OwnB s A B L c d q b) : b < w.heap.size := by
  rcases hb with k | k | k
  · exact (h.1.lt b k).2
  · exact (h.2.1.lt b k).2
  · exact (h.2.2.1.lt b k).2
/-- a box that was made ahead of cloneShow -/
theorem clone_first {X w5 : World} {a : Array Value} {t : TypeId} {s : Shw} {A B L : Option Addr} {c d q : Nat} (own : OwnS w5 (X.alloc (Obj.cells a t)).drew.heap.size s A B L c d q) (hb : Below (X.alloc (Obj.cells a t)).drew.heap.size (X.alloc (Obj.cells a t)).drew w5) :
    ∃ b5, OwnS w5 b5 s A B L c d q ∧ X.heap.size < b5 ∧ b5 ≤ w5.heap.size ∧ CA w5 X.heap.size a.toList ∧ FA w5 X.heap.size :=
  ⟨_, own, by show X.heap.size < (X.alloc (Obj.cells a t)).heap.size; simp, hb.size, (show CA (X.alloc (Obj.cells a t)).drew X.heap.size a.toList from CA.new X a t).keep hb, (show FA (X.alloc (Obj.cells a t)).drew X.heap.size from FA.new X a t).keep hb (by show X.heap.size < (X.alloc (Obj.cells a t)).heap.size; simp)⟩
theorem clone_plain {X w5 : World} {s : Shw} {A B L : Option Addr} {c d q : Nat} (own : OwnS w5 X.drew.heap.size s A B L c d q) (hb : Below X.drew.heap.size X.drew w5) : ∃ b5, OwnS w5 b5 s A B L c d q ∧ X.heap.size ≤ b5 ∧ b5 ≤ w5.heap.size := ⟨_, own, Nat.le_refl _, hb.size⟩
/-- a box that is none of its rows is set -/
theorem OwnS.setG {w : World} {base x g : Nat} {O : Nat → Prop} {s : Shw} {A B L : Option Addr} {c d q : Nat} (h : OwnS w base s A B L c d q) (hi : InS O x s A B L c d q) (hO : ¬ O g) (hg : g < x) (i : Nat) (u : Value) : OwnS (w.setCell ⟨g, i, none⟩ u) base s A B L c d q :=
  have off : ∀ v, InO O x v → Off v g := fun v hv e => by
    rcases hv g e with k | k
    · exact hO k
    · omega
  ⟨own_set h.1 (off _ hi.1) i u, own_set h.2.1 (off _ hi.2.1) i u, own_set h.2.2.1 (off _ hi.2.2) i u, h.2.2.2⟩
theorem doE_out {s : Shw} {e : Ev} (h : evR e = false) : doE s e = none := by unfold doE; rw [h]; rfl
theorem doE_none {s : Shw} {e : Ev} (h : evR e = true) (hh : hap s e = none) : doE s e = none := by unfold doE; rw [h, hh]; rfl
theorem doE_yes {s t : Shw} {e : Ev} (h : evR e = true) (hh : hap s e = some t) (hk : okS (logged t e) = true) : doE s e = some (logged t e) := by unfold doE; rw [h, hh]; simp [hk]
theorem doE_not {s t : Shw} {e : Ev} (h : evR e = true) (hh : hap s e = some t) (hk : okS (logged t e) = false) : doE s e = none := by unfold doE; rw [h, hh]; simp [hk]

/-- what DoEvent answers -/
def DoI (s : Shw) (e : Ev) (base : Nat) (r : Ending) (w' : World) : Prop :=
  ∃ (A B L : Option Addr) (c d q : Nat), r = .returned (.tuple #[.agg #[.int .i64 ((doE s e).getD s).sz, .float .f32 ((doE s e).getD s).st, .float .f32 ((doE s e).getD s).li.1, .float .f32 ((doE s e).getD s).li.2.1, .float .f32 ((doE s e).getD s).li.2.2, .slice A ((doE s e).getD s).sh.length c, .int .i64 ((doE s e).getD s).mir, .complex .f32 ((doE s e).getD s).gr.1 ((doE s e).getD s).gr.2, .float .f32 ((doE s e).getD s).loss, .slice B ((doE s e).getD s).bs.length d, .int .i64 ((doE s e).getD s).tk, .slice L ((doE s e).getD s).log.length q], .bool (doE s e).isSome]) ∧ OwnS w' base ((doE s e).getD s) A B L c d q
theorem doI_mk {s t : Shw} {e : Ev} {b : Bool} {base : Nat} {w' : World} {A B L : Option Addr} {c d q : Nat} (own : OwnS w' base t A B L c d q) (ht : t = (doE s e).getD s) (hb : b = (doE s e).isSome) :
    DoI s e base (.returned (.tuple #[.agg #[.int .i64 t.sz, .float .f32 t.st, .float .f32 t.li.1, .float .f32 t.li.2.1, .float .f32 t.li.2.2, .slice A t.sh.length c, .int .i64 t.mir, .complex .f32 t.gr.1 t.gr.2, .float .f32 t.loss, .slice B t.bs.length d, .int .i64 t.tk, .slice L t.log.length q], .bool b])) w' := by
  subst ht hb
  exact ⟨A, B, L, c, d, q, rfl, own⟩

set_option maxRecDepth 100000 in
set_option maxHeartbeats 40000000 in
theorem doEvent_any (s : Shw) (e : Ev) (A B L : Option Addr) (c d q : Nat) (w : World) (hg : Good s) (hk : okS s = true) (he : evG e = true) (hr : RdS w s A B L) :
    Calls Tryz.prog 8 #[.agg #[.int .i64 s.sz, .float .f32 s.st, .float .f32 s.li.1, .float .f32 s.li.2.1, .float .f32 s.li.2.2, .slice A s.sh.length c, .int .i64 s.mir, .complex .f32 s.gr.1 s.gr.2, .float .f32 s.loss, .slice B s.bs.length d, .int .i64 s.tk, .slice L s.log.length q], .agg #[.int .i64 e.k, .int .i64 e.n, .complex .f32 e.z.1 e.z.2, .complex .f32 e.s.1.1 e.s.1.2, .complex .f32 e.s.2.1.1 e.s.2.1.2, .complex .f32 e.s.2.2.1.1 e.s.2.2.1.2, .float .f32 e.s.2.2.2.1.1, .float .f32 e.s.2.2.2.1.2.1, .float .f32 e.s.2.2.2.1.2.2, .float .f32 e.s.2.2.2.2, .float .f32 e.c.1, .float .f32 e.c.2.1, .float .f32 e.c.2.2]] w fun r w' => DoI s e w.heap.size r w' ∧ Below w.heap.size w w' := by
  obtain ⟨p1, p2, p3, p4⟩ := okS_parts.1 hk
  have hl := hg.len
  have KI := Lib.hid (fun w (h : RdS w s A B L) => isShow_any s A B L s.sh.length c s.bs.length d s.log.length q w hg (by omega) (by omega) (by omega) h.1 h.2.1 h.2.2)
  have KE := Lib.hid (fun w => isEvent_any e w he)
  have KC := Lib.hid (fun w h => cloneShow_any s A B L c d q w (by omega) p1 (by omega) h)
  rw [hk] at KI
  have HR := Lib.hid hr
  have HG := Lib.hid hg
  have HK := Lib.hid hk
  have HE := Lib.hid he
  clear hg hk he p1 p2 p3 p4 hl hr
  go_enter Tryz.func8, Tryz.ntmps8
  go_upto_region 1 with fail
  have h := ds_new (w := w) e #[.int .i64 s.sz, .float .f32 s.st, .float .f32 s.li.1, .float .f32 s.li.2.1, .float .f32 s.li.2.2, .slice A s.sh.length c, .int .i64 s.mir, .complex .f32 s.gr.1 s.gr.2, .float .f32 s.loss, .slice B s.bs.length d, .int .i64 s.tk, .slice L s.log.length q] #[.int .i64 0, .float .f32 0, .float .f32 0, .float .f32 0, .float .f32 0, .slice none 0 0, .int .i64 0, .complex .f32 0 0, .float .f32 0, .slice none 0 0, .int .i64 0, .slice none 0 0] #[.int .i64 e.k, .int .i64 e.n, .complex .f32 e.z.1 e.z.2, .complex .f32 e.s.1.1 e.s.1.2, .complex .f32 e.s.2.1.1 e.s.2.1.2, .complex .f32 e.s.2.2.1.1 e.s.2.2.1.2, .float .f32 e.s.2.2.2.1.1, .float .f32 e.s.2.2.2.1.2.1, .float .f32 e.s.2.2.2.1.2.2, .float .f32 e.s.2.2.2.2, .float .f32 e.c.1, .float .f32 e.c.2.1, .float .f32 e.c.2.2] 34 38 34 rfl
  obtain ⟨V, hVe⟩ : ∃ V, V = ((w.alloc (Obj.cells #[.int .i64 s.sz, .float .f32 s.st, .float .f32 s.li.1, .float .f32 s.li.2.1, .float .f32 s.li.2.2, .slice A s.sh.length c, .int .i64 s.mir, .complex .f32 s.gr.1 s.gr.2, .float .f32 s.loss, .slice B s.bs.length d, .int .i64 s.tk, .slice L s.log.length q] 34)).alloc (Obj.cells #[.int .i64 e.k, .int .i64 e.n, .complex .f32 e.z.1 e.z.2, .complex .f32 e.s.1.1 e.s.1.2, .complex .f32 e.s.2.1.1 e.s.2.1.2, .complex .f32 e.s.2.2.1.1 e.s.2.2.1.2, .float .f32 e.s.2.2.2.1.1, .float .f32 e.s.2.2.2.1.2.1, .float .f32 e.s.2.2.2.1.2.2, .float .f32 e.s.2.2.2.2, .float .f32 e.c.1, .float .f32 e.c.2.1, .float .f32 e.c.2.2] 38)).alloc (Obj.cells #[.int .i64 0, .float .f32 0, .float .f32 0, .float .f32 0, .float .f32 0, .slice none 0 0, .int .i64 0, .complex .f32 0 0, .float .f32 0, .slice none 0 0, .int .i64 0, .slice none 0 0] 34) := ⟨_, rfl⟩
  rw [← hVe] at h
  rw [← hVe]
  clear hVe
  have a0 := h.cx 0 _ rfl; have a1 := h.cx 1 _ rfl; have a2 := h.cx 2 _ rfl; have a3 := h.cx 3 _ rfl; have a4 := h.cx 4 _ rfl; have a5 := h.cx 5 _ rfl; have a6 := h.cx 6 _ rfl; have a7 := h.cx 7 _ rfl; have a8 := h.cx 8 _ rfl; have a9 := h.cx 9 _ rfl; have a10 := h.cx 10 _ rfl; have a11 := h.cx 11 _ rfl
  have bl := h.bel
  go_wp2_with fail
  (with_reducible refine (KI.out _ (HR.out.step bl)).mono ?_)
  rintro r w1 ⟨rfl, hb1⟩
  replace h := h.step hb1
  clear a0 a1 a2 a3 a4 a5 a6 a7 a8 a9 a10 a11 hb1 bl
  have y0 := h.cy 0 _ rfl; have y1 := h.cy 1 _ rfl; have y2 := h.cy 2 _ rfl; have y3 := h.cy 3 _ rfl; have y4 := h.cy 4 _ rfl; have y5 := h.cy 5 _ rfl; have y6 := h.cy 6 _ rfl; have y7 := h.cy 7 _ rfl; have y8 := h.cy 8 _ rfl; have y9 := h.cy 9 _ rfl; have y10 := h.cy 10 _ rfl; have y11 := h.cy 11 _ rfl; have y12 := h.cy 12 _ rfl
  go_wp2_with fail
  (with_reducible refine (KE.out _).mono ?_)
  rintro r X ⟨rfl, hb2⟩
  replace h := h.step hb2
  clear y0 y1 y2 y3 y4 y5 y6 y7 y8 y9 y10 y11 y12 hb2 KE
  cases er : evR e
  · have DN := doE_out (s := s) er
    clear er
    have a0 := h.cx 0 _ rfl; have a1 := h.cx 1 _ rfl; have a2 := h.cx 2 _ rfl; have a3 := h.cx 3 _ rfl; have a4 := h.cx 4 _ rfl; have a5 := h.cx 5 _ rfl; have a6 := h.cx 6 _ rfl; have a7 := h.cx 7 _ rfl; have a8 := h.cx 8 _ rfl; have a9 := h.cx 9 _ rfl; have a10 := h.cx 10 _ rfl; have a11 := h.cx 11 _ rfl
    have lx : w.heap.size < X.heap.size := by have := h.lt; omega
    have lo : w.heap.size + 1 + 1 < X.heap.size := h.lt
    have bl := h.bel
    go_wp2_with fail
    (with_reducible refine (KC.out _ (HR.out.step bl)).mono ?_)
    rintro r w9 ⟨⟨A9, B9, L9, c9, d9, q9, rfl, own9⟩, hb9⟩
    have h9 := h.step hb9
    have OW9 := Lib.hid own9
    have lo9 : w.heap.size + 1 + 1 < w9.heap.size := h9.lt
    have H9 := Lib.hid h9
    have BL := Lib.hid bl.size
    have o0 := h9.co 0 _ rfl; have o1 := h9.co 1 _ rfl; have o2 := h9.co 2 _ rfl; have o3 := h9.co 3 _ rfl; have o4 := h9.co 4 _ rfl; have o5 := h9.co 5 _ rfl; have o6 := h9.co 6 _ rfl; have o7 := h9.co 7 _ rfl; have o8 := h9.co 8 _ rfl; have o9 := h9.co 9 _ rfl; have o10 := h9.co 10 _ rfl; have o11 := h9.co 11 _ rfl
    have f0 := h9.fo 0; have f1 := h9.fo 1; have f2 := h9.fo 2; have f3 := h9.fo 3; have f4 := h9.fo 4; have f5 := h9.fo 5; have f6 := h9.fo 6; have f7 := h9.fo 7; have f8 := h9.fo 8; have f9 := h9.fo 9; have f10 := h9.fo 10; have f11 := h9.fo 11
    clear a0 a1 a2 a3 a4 a5 a6 a7 a8 a9 a10 a11 own9 hb9 h9 bl
    go_wp2
    have hz := ((((((((((((H9.out.puto 0 (.int .i64 s.sz)).puto 1 (.float .f32 s.st)).puto 2 (.float .f32 s.li.1)).puto 3 (.float .f32 s.li.2.1)).puto 4 (.float .f32 s.li.2.2)).puto 5 (.slice A9 s.sh.length c9)).puto 6 (.int .i64 s.mir)).puto 7 (.complex .f32 s.gr.1 s.gr.2)).puto 8 (.float .f32 s.loss)).puto 9 (.slice B9 s.bs.length d9)).puto 10 (.int .i64 s.tk)).puto 11 (.slice L9 s.log.length q9))
    have z0 := hz.co 0 _ rfl; have z1 := hz.co 1 _ rfl; have z2 := hz.co 2 _ rfl; have z3 := hz.co 3 _ rfl; have z4 := hz.co 4 _ rfl; have z5 := hz.co 5 _ rfl; have z6 := hz.co 6 _ rfl; have z7 := hz.co 7 _ rfl; have z8 := hz.co 8 _ rfl; have z9 := hz.co 9 _ rfl; have z10 := hz.co 10 _ rfl; have z11 := hz.co 11 _ rfl
    refine bodyPost_ret (v := .tuple #[.agg #[.int .i64 s.sz, .float .f32 s.st, .float .f32 s.li.1, .float .f32 s.li.2.1, .float .f32 s.li.2.2, .slice A9 s.sh.length c9, .int .i64 s.mir, .complex .f32 s.gr.1 s.gr.2, .float .f32 s.loss, .slice B9 s.bs.length d9, .int .i64 s.tk, .slice L9 s.log.length q9], .bool false]) (by simp [results, Tryz.results8, go_sem, z0, z1, z2, z3, z4, z5, z6, z7, z8, z9, z10, z11]) rfl ⟨doI_mk (OwnS.mono ((((((((((((OW9.out.set _ lo _).set _ lo _).set _ lo _).set _ lo _).set _ lo _).set _ lo _).set _ lo _).set _ lo _).set _ lo _).set _ lo _).set _ lo _).set _ lo _) BL.out) (by rw [DN]; rfl) (by rw [DN]; rfl), hz.bel⟩
  · go_upto_region 3 with fail
    have KH := Lib.hid (fun A B L c d q base w hb own => happen_any s e A B L c d q base w HG.out HK.out er hb own)
    have RX := Lib.hid (HR.out.step h.bel)
    have lx := h.lt
    have lX0 : w.heap.size < X.heap.size := by omega
    have lX1 : w.heap.size + 1 < X.heap.size := by omega
    have a0 := h.cx 0 _ rfl; have a1 := h.cx 1 _ rfl; have a2 := h.cx 2 _ rfl; have a3 := h.cx 3 _ rfl; have a4 := h.cx 4 _ rfl; have a5 := h.cx 5 _ rfl; have a6 := h.cx 6 _ rfl; have a7 := h.cx 7 _ rfl; have a8 := h.cx 8 _ rfl; have a9 := h.cx 9 _ rfl; have a10 := h.cx 10 _ rfl; have a11 := h.cx 11 _ rfl
    have y0 := h.cy 0 _ rfl; have y1 := h.cy 1 _ rfl; have y2 := h.cy 2 _ rfl; have y3 := h.cy 3 _ rfl; have y4 := h.cy 4 _ rfl; have y5 := h.cy 5 _ rfl; have y6 := h.cy 6 _ rfl; have y7 := h.cy 7 _ rfl; have y8 := h.cy 8 _ rfl; have y9 := h.cy 9 _ rfl; have y10 := h.cy 10 _ rfl; have y11 := h.cy 11 _ rfl; have y12 := h.cy 12 _ rfl
    cases hh : hap s e with
    | none =>
      have HN := Lib.hid (doE_none er hh)
      go_cut [6, 7] (fun v6 v7 wx => v7 = .bool false ∧ Below X.heap.size X wx)
      case first =>
        go_region_held3 (fun w' => (∀ b o, b < X.heap.size → w'.cell? ⟨b, o, none⟩ = X.cell? ⟨b, o, none⟩) ∧ Below X.heap.size X w') (first | with_reducible assumption | with_reducible exact startS _ | with_reducible exact startSM _ _ | with_reducible exact stepS (by assumption) (by assumption) | with_reducible exact ofBel (by (repeat (first | with_reducible assumption | with_reducible exact Below.refl _ _ | with_reducible refine Below.setCell ?_ (by first | exact Nat.le_refl _ | (dsimp only; omega)) _ | with_reducible refine Below.alloc ?_ (by first | exact Nat.le_refl _ | omega) _ | with_reducible refine Below.drew ?_ | with_reducible refine below_drewN ?_ _)))) (first | (go_at_call 32; (with_reducible refine (KC.out _ (RX.out.step ?_)).mono ?_); (repeat (first | with_reducible assumption | exact Below.refl _ _ | (refine Below.setCell ?_ (by first | exact Nat.le_refl _ | (simp; done) | omega | (simp; omega)) _) | (refine below_drewN ?_ _) | (refine Below.drew ?_) | (refine Below.alloc ?_ (by first | exact Nat.le_refl _ | (simp; done) | omega | (simp; omega)) _) | (refine then_ ?_ (by with_reducible assumption)) | assumption | (refine then_ ?_ (by assumption)))); rintro r w5 ⟨⟨A5, B5, L5, c5, d5, q5, rfl, own5⟩, hb5⟩; have hB5 : Below X.heap.size X w5 := (by (repeat (first | with_reducible assumption | exact Below.refl _ _ | (refine Below.setCell ?_ (by first | exact Nat.le_refl _ | (simp; done) | omega | (simp; omega)) _) | (refine below_drewN ?_ _) | (refine Below.drew ?_) | (refine Below.alloc ?_ (by first | exact Nat.le_refl _ | (simp; done) | omega | (simp; omega)) _) | (refine then_ ?_ (by with_reducible assumption)) | assumption | (refine then_ ?_ (by assumption))))); have z5 := hB5.size; (first | (obtain ⟨b5, own5, hx5, hs5, cg, fg⟩ := clone_first own5 hb5) | (obtain ⟨b5, own5, hx5, hs5⟩ := clone_plain own5 hb5))) | (go_at_call 33; (first | ((with_reducible refine (KH.out A5 B5 L5 c5 d5 q5 b5 w5 hs5 own5).mono ?_); rintro r w7 ⟨hp7, bf7⟩; have hB7 : Below X.heap.size X w7 := hB5.trans (bf7.bel.mono (by omega)); try (have cg := cg.belB bf7.bel hx5; have fg := fg.belB bf7.bel hx5)) | ((with_reducible refine (KH.out A5 B5 L5 c5 d5 q5 b5 (w5.alloc (Obj.cells #[.int .i64 0, .float .f32 0, .float .f32 0, .float .f32 0, .float .f32 0, .slice none 0 0, .int .i64 0, .complex .f32 0 0, .float .f32 0, .slice none 0 0, .int .i64 0, .slice none 0 0] 34)) (by simp; omega) (own5.below (by (repeat (first | with_reducible assumption | exact Below.refl _ _ | (refine Below.setCell ?_ (by first | exact Nat.le_refl _ | (simp; done) | omega | (simp; omega)) _) | (refine below_drewN ?_ _) | (refine Below.drew ?_) | (refine Below.alloc ?_ (by first | exact Nat.le_refl _ | (simp; done) | omega | (simp; omega)) _) | (refine then_ ?_ (by with_reducible assumption)) | assumption | (refine then_ ?_ (by assumption))))))).mono ?_); rintro r w7 ⟨hp7, bf7⟩; have hB7 : Below X.heap.size X w7 := (hB5.alloc hB5.size _).trans (bf7.bel.mono (by omega)); have no5 : ¬ OwnB s A5 B5 L5 c5 d5 q5 w5.heap.size := (fun k => by have := ownB_lt own5 k; omega); have cg := (CA.new w5 #[.int .i64 0, .float .f32 0, .float .f32 0, .float .f32 0, .float .f32 0, .slice none 0 0, .int .i64 0, .complex .f32 0 0, .float .f32 0, .slice none 0 0, .int .i64 0, .slice none 0 0] 34).far bf7 (by simp) no5; have fg := (FA.new w5 #[.int .i64 0, .float .f32 0, .float .f32 0, .float .f32 0, .float .f32 0, .slice none 0 0, .int .i64 0, .complex .f32 0 0, .float .f32 0, .slice none 0 0, .int .i64 0, .slice none 0 0] 34).far bf7 (by simp) no5)); have z7 := hB7.size; obtain ⟨s7, A7, B7, L7, n7, c7, m7, d7, p7, q7, rfl⟩ := hp7.2 hh; try (have k0 := cg 0 _ rfl; have k1 := cg 1 _ rfl; have k2 := cg 2 _ rfl; have k3 := cg 3 _ rfl; have k4 := cg 4 _ rfl; have k5 := cg 5 _ rfl; have k6 := cg 6 _ rfl; have k7 := cg 7 _ rfl; have k8 := cg 8 _ rfl; have k9 := cg 9 _ rfl; have k10 := cg 10 _ rfl; have k11 := cg 11 _ rfl; have j0 := fg 0; have j1 := fg 1; have j2 := fg 2; have j3 := fg 3; have j4 := fg 4; have j5 := fg 5; have j6 := fg 6; have j7 := fg 7; have j8 := fg 8; have j9 := fg 9; have j10 := fg 10; have j11 := fg 11; have lg := cg.lt)))
        all_goals
          go_wp2_with fail
          go_meet
          exact ⟨rfl, (by (repeat (first | with_reducible assumption | with_reducible exact Below.refl _ _ | with_reducible refine Below.setCell ?_ (by first | exact Nat.le_refl _ | (dsimp only; omega)) _ | with_reducible refine Below.alloc ?_ (by first | exact Nat.le_refl _ | omega) _ | with_reducible refine Below.drew ?_ | with_reducible refine below_drewN ?_ _)))⟩
      case rest =>
        obtain ⟨rfl, hwc⟩ := hcut
        replace h := h.step hwc
        clear hwc a0 a1 a2 a3 a4 a5 a6 a7 a8 a9 a10 a11 y0 y1 y2 y3 y4 y5 y6 y7 y8 y9 y10 y11 y12 lx lX0 lX1 RX KH
        have DN := HN.out
        have a0 := h.cx 0 _ rfl; have a1 := h.cx 1 _ rfl; have a2 := h.cx 2 _ rfl; have a3 := h.cx 3 _ rfl; have a4 := h.cx 4 _ rfl; have a5 := h.cx 5 _ rfl; have a6 := h.cx 6 _ rfl; have a7 := h.cx 7 _ rfl; have a8 := h.cx 8 _ rfl; have a9 := h.cx 9 _ rfl; have a10 := h.cx 10 _ rfl; have a11 := h.cx 11 _ rfl
        have lx : w.heap.size < wc.heap.size := by have := h.lt; omega
        have lo : w.heap.size + 1 + 1 < wc.heap.size := h.lt
        have bl := h.bel
        go_wp2_with fail
        (with_reducible refine (KC.out _ (HR.out.step bl)).mono ?_)
        rintro r w9 ⟨⟨A9, B9, L9, c9, d9, q9, rfl, own9⟩, hb9⟩
        have h9 := h.step hb9
        have OW9 := Lib.hid own9
        have lo9 : w.heap.size + 1 + 1 < w9.heap.size := h9.lt
        have H9 := Lib.hid h9
        have BL := Lib.hid bl.size
        have o0 := h9.co 0 _ rfl; have o1 := h9.co 1 _ rfl; have o2 := h9.co 2 _ rfl; have o3 := h9.co 3 _ rfl; have o4 := h9.co 4 _ rfl; have o5 := h9.co 5 _ rfl; have o6 := h9.co 6 _ rfl; have o7 := h9.co 7 _ rfl; have o8 := h9.co 8 _ rfl; have o9 := h9.co 9 _ rfl; have o10 := h9.co 10 _ rfl; have o11 := h9.co 11 _ rfl
        have f0 := h9.fo 0; have f1 := h9.fo 1; have f2 := h9.fo 2; have f3 := h9.fo 3; have f4 := h9.fo 4; have f5 := h9.fo 5; have f6 := h9.fo 6; have f7 := h9.fo 7; have f8 := h9.fo 8; have f9 := h9.fo 9; have f10 := h9.fo 10; have f11 := h9.fo 11
        clear a0 a1 a2 a3 a4 a5 a6 a7 a8 a9 a10 a11 own9 hb9 h9 bl
        go_wp2
        have hz := ((((((((((((H9.out.puto 0 (.int .i64 s.sz)).puto 1 (.float .f32 s.st)).puto 2 (.float .f32 s.li.1)).puto 3 (.float .f32 s.li.2.1)).puto 4 (.float .f32 s.li.2.2)).puto 5 (.slice A9 s.sh.length c9)).puto 6 (.int .i64 s.mir)).puto 7 (.complex .f32 s.gr.1 s.gr.2)).puto 8 (.float .f32 s.loss)).puto 9 (.slice B9 s.bs.length d9)).puto 10 (.int .i64 s.tk)).puto 11 (.slice L9 s.log.length q9))
        have z0 := hz.co 0 _ rfl; have z1 := hz.co 1 _ rfl; have z2 := hz.co 2 _ rfl; have z3 := hz.co 3 _ rfl; have z4 := hz.co 4 _ rfl; have z5 := hz.co 5 _ rfl; have z6 := hz.co 6 _ rfl; have z7 := hz.co 7 _ rfl; have z8 := hz.co 8 _ rfl; have z9 := hz.co 9 _ rfl; have z10 := hz.co 10 _ rfl; have z11 := hz.co 11 _ rfl
        refine bodyPost_ret (v := .tuple #[.agg #[.int .i64 s.sz, .float .f32 s.st, .float .f32 s.li.1, .float .f32 s.li.2.1, .float .f32 s.li.2.2, .slice A9 s.sh.length c9, .int .i64 s.mir, .complex .f32 s.gr.1 s.gr.2, .float .f32 s.loss, .slice B9 s.bs.length d9, .int .i64 s.tk, .slice L9 s.log.length q9], .bool false]) (by simp [results, Tryz.results8, go_sem, z0, z1, z2, z3, z4, z5, z6, z7, z8, z9, z10, z11]) rfl ⟨doI_mk (OwnS.mono ((((((((((((OW9.out.set _ lo _).set _ lo _).set _ lo _).set _ lo _).set _ lo _).set _ lo _).set _ lo _).set _ lo _).set _ lo _).set _ lo _).set _ lo _).set _ lo _) BL.out) (by rw [DN]; rfl) (by rw [DN]; rfl), hz.bel⟩
    | some t0 =>
      have HH := Lib.hid hh
      have GT := Lib.hid (good_logged (good_hap HG.out HK.out HE.out er hh) (by unfold evB; rw [HE.out, er]; rfl))
      have HL := Lib.hid (hap_len HG.out HK.out er hh)
      have ER := Lib.hid er
      go_cut [6, 7] (fun v6 v7 wx => ∃ (g b5 : Nat) (A7 B7 L7 : Option Addr) (c7 d7 q7 : Nat), v6 = .pointer (some ⟨g, 0, none⟩) ∧ v7 = .bool true ∧ X.heap.size ≤ g ∧ X.heap.size ≤ b5 ∧ CA wx g (shwL (logged t0 e) A7 B7 L7 (logged t0 e).sh.length c7 (logged t0 e).bs.length d7 (logged t0 e).log.length q7) ∧ OwnS wx b5 (logged t0 e) A7 B7 L7 c7 d7 q7 ∧ Below X.heap.size X wx)
      case first =>
        go_region_held3 (fun w' => (∀ b o, b < X.heap.size → w'.cell? ⟨b, o, none⟩ = X.cell? ⟨b, o, none⟩) ∧ Below X.heap.size X w') (first | with_reducible assumption | with_reducible exact startS _ | with_reducible exact startSM _ _ | with_reducible exact stepS (by assumption) (by assumption) | with_reducible exact ofBel (by (repeat (first | with_reducible assumption | with_reducible exact Below.refl _ _ | with_reducible refine Below.setCell ?_ (by first | exact Nat.le_refl _ | (dsimp only; omega)) _ | with_reducible refine Below.alloc ?_ (by first | exact Nat.le_refl _ | omega) _ | with_reducible refine Below.drew ?_ | with_reducible refine below_drewN ?_ _)))) (first | (go_at_call 32; (with_reducible refine (KC.out _ (RX.out.step ?_)).mono ?_); (repeat (first | with_reducible assumption | exact Below.refl _ _ | (refine Below.setCell ?_ (by first | exact Nat.le_refl _ | (simp; done) | omega | (simp; omega)) _) | (refine below_drewN ?_ _) | (refine Below.drew ?_) | (refine Below.alloc ?_ (by first | exact Nat.le_refl _ | (simp; done) | omega | (simp; omega)) _) | (refine then_ ?_ (by with_reducible assumption)) | assumption | (refine then_ ?_ (by assumption)))); rintro r w5 ⟨⟨A5, B5, L5, c5, d5, q5, rfl, own5⟩, hb5⟩; have hB5 : Below X.heap.size X w5 := (by (repeat (first | with_reducible assumption | exact Below.refl _ _ | (refine Below.setCell ?_ (by first | exact Nat.le_refl _ | (simp; done) | omega | (simp; omega)) _) | (refine below_drewN ?_ _) | (refine Below.drew ?_) | (refine Below.alloc ?_ (by first | exact Nat.le_refl _ | (simp; done) | omega | (simp; omega)) _) | (refine then_ ?_ (by with_reducible assumption)) | assumption | (refine then_ ?_ (by assumption))))); have z5 := hB5.size; (first | (obtain ⟨b5, own5, hx5, hs5, cg, fg⟩ := clone_first own5 hb5) | (obtain ⟨b5, own5, hx5, hs5⟩ := clone_plain own5 hb5))) | (go_at_call 33; (first | ((with_reducible refine (KH.out A5 B5 L5 c5 d5 q5 b5 w5 hs5 own5).mono ?_); rintro r w7 ⟨hp7, bf7⟩; have hB7 : Below X.heap.size X w7 := hB5.trans (bf7.bel.mono (by omega)); try (have cg := cg.belB bf7.bel hx5; have fg := fg.belB bf7.bel hx5)) | ((with_reducible refine (KH.out A5 B5 L5 c5 d5 q5 b5 (w5.alloc (Obj.cells #[.int .i64 0, .float .f32 0, .float .f32 0, .float .f32 0, .float .f32 0, .slice none 0 0, .int .i64 0, .complex .f32 0 0, .float .f32 0, .slice none 0 0, .int .i64 0, .slice none 0 0] 34)) (by simp; omega) (own5.below (by (repeat (first | with_reducible assumption | exact Below.refl _ _ | (refine Below.setCell ?_ (by first | exact Nat.le_refl _ | (simp; done) | omega | (simp; omega)) _) | (refine below_drewN ?_ _) | (refine Below.drew ?_) | (refine Below.alloc ?_ (by first | exact Nat.le_refl _ | (simp; done) | omega | (simp; omega)) _) | (refine then_ ?_ (by with_reducible assumption)) | assumption | (refine then_ ?_ (by assumption))))))).mono ?_); rintro r w7 ⟨hp7, bf7⟩; have hB7 : Below X.heap.size X w7 := (hB5.alloc hB5.size _).trans (bf7.bel.mono (by omega)); have no5 : ¬ OwnB s A5 B5 L5 c5 d5 q5 w5.heap.size := (fun k => by have := ownB_lt own5 k; omega); have cg := (CA.new w5 #[.int .i64 0, .float .f32 0, .float .f32 0, .float .f32 0, .float .f32 0, .slice none 0 0, .int .i64 0, .complex .f32 0 0, .float .f32 0, .slice none 0 0, .int .i64 0, .slice none 0 0] 34).far bf7 (by simp) no5; have fg := (FA.new w5 #[.int .i64 0, .float .f32 0, .float .f32 0, .float .f32 0, .float .f32 0, .slice none 0 0, .int .i64 0, .complex .f32 0 0, .float .f32 0, .slice none 0 0, .int .i64 0, .slice none 0 0] 34).far bf7 (by simp) no5)); have z7 := hB7.size; obtain ⟨A7, B7, L7, c7, d7, q7, rfl, own7, hin7⟩ := hp7.1 t0 hh; have OW7 := Lib.hid own7; clear own7; try (have k0 := cg 0 _ rfl; have k1 := cg 1 _ rfl; have k2 := cg 2 _ rfl; have k3 := cg 3 _ rfl; have k4 := cg 4 _ rfl; have k5 := cg 5 _ rfl; have k6 := cg 6 _ rfl; have k7 := cg 7 _ rfl; have k8 := cg 8 _ rfl; have k9 := cg 9 _ rfl; have k10 := cg 10 _ rfl; have k11 := cg 11 _ rfl; have j0 := fg 0; have j1 := fg 1; have j2 := fg 2; have j3 := fg 3; have j4 := fg 4; have j5 := fg 5; have j6 := fg 6; have j7 := fg 7; have j8 := fg 8; have j9 := fg 9; have j10 := fg 10; have j11 := fg 11; have lg := cg.lt)))
        all_goals
          go_wp2_with fail
          go_meet
          first
            | (refine ⟨w7.heap.size, b5, A7, B7, L7, c7, d7, q7, rfl, rfl, z7, (by omega), ?_, ?_, (by (repeat (first | with_reducible assumption | with_reducible exact Below.refl _ _ | with_reducible refine Below.setCell ?_ (by first | exact Nat.le_refl _ | (dsimp only; omega)) _ | with_reducible refine Below.alloc ?_ (by first | exact Nat.le_refl _ | omega) _ | with_reducible refine Below.drew ?_ | with_reducible refine below_drewN ?_ _)))⟩
               · exact CA.new w7 _ _
               · exact OW7.out.below (by with_reducible exact Below.alloc (Below.refl _ _) (Nat.le_refl _) _))
            | (have lgb : X.heap.size < b5 := hx5
               refine ⟨X.heap.size, b5, A7, B7, L7, c7, d7, q7, rfl, rfl, Nat.le_refl _, (by omega), ?_, ?_, (by (repeat (first | with_reducible assumption | with_reducible exact Below.refl _ _ | with_reducible refine Below.setCell ?_ (by first | exact Nat.le_refl _ | (dsimp only; omega)) _ | with_reducible refine Below.alloc ?_ (by first | exact Nat.le_refl _ | omega) _ | with_reducible refine Below.drew ?_ | with_reducible refine below_drewN ?_ _)))⟩
               · exact ((((((((((((cg.put 0 _).put 1 _).put 2 _).put 3 _).put 4 _).put 5 _).put 6 _).put 7 _).put 8 _).put 9 _).put 10 _).put 11 _)
               · exact ((((((((((((OW7.out.set _ lgb _).set _ lgb _).set _ lgb _).set _ lgb _).set _ lgb _).set _ lgb _).set _ lgb _).set _ lgb _).set _ lgb _).set _ lgb _).set _ lgb _).set _ lgb _))
            | (have lg5 : w5.heap.size < (w5.alloc (Obj.cells #[.int .i64 0, .float .f32 0, .float .f32 0, .float .f32 0, .float .f32 0, .slice none 0 0, .int .i64 0, .complex .f32 0 0, .float .f32 0, .slice none 0 0, .int .i64 0, .slice none 0 0] 34)).heap.size := by simp
               refine ⟨w5.heap.size, b5, A7, B7, L7, c7, d7, q7, rfl, rfl, z5, (by omega), ?_, ?_, (by (repeat (first | with_reducible assumption | with_reducible exact Below.refl _ _ | with_reducible refine Below.setCell ?_ (by first | exact Nat.le_refl _ | (dsimp only; omega)) _ | with_reducible refine Below.alloc ?_ (by first | exact Nat.le_refl _ | omega) _ | with_reducible refine Below.drew ?_ | with_reducible refine below_drewN ?_ _)))⟩
               · exact ((((((((((((cg.put 0 _).put 1 _).put 2 _).put 3 _).put 4 _).put 5 _).put 6 _).put 7 _).put 8 _).put 9 _).put 10 _).put 11 _)
               · exact ((((((((((((OW7.out.setG hin7 no5 lg5 _ _).setG hin7 no5 lg5 _ _).setG hin7 no5 lg5 _ _).setG hin7 no5 lg5 _ _).setG hin7 no5 lg5 _ _).setG hin7 no5 lg5 _ _).setG hin7 no5 lg5 _ _).setG hin7 no5 lg5 _ _).setG hin7 no5 lg5 _ _).setG hin7 no5 lg5 _ _).setG hin7 no5 lg5 _ _).setG hin7 no5 lg5 _ _))
      case rest =>
        obtain ⟨g, b5, A7, B7, L7, c7, d7, q7, rfl, rfl, hg, hb5, cg, own7, hwc⟩ := hcut
        replace h := h.step hwc
        have lx2 : w.heap.size + 1 + 1 < X.heap.size := lx
        clear hwc a0 a1 a2 a3 a4 a5 a6 a7 a8 a9 a10 a11 y0 y1 y2 y3 y4 y5 y6 y7 y8 y9 y10 y11 y12 RX KH
        obtain ⟨t, ht⟩ : ∃ t, t = logged t0 e := ⟨_, rfl⟩
        have hlen : t.sh.length ≤ 12 ∧ t.bs.length ≤ 12 ∧ t.log.length ≤ 30 := by
          obtain ⟨l1, l2, l3, _, _⟩ := HL.out
          obtain ⟨_, _, _, l4⟩ := okS_parts.1 HK.out
          rw [ht]
          refine ⟨by show t0.sh.length ≤ 12; omega, by show t0.bs.length ≤ 12; omega, ?_⟩
          show (t0.log ++ [e]).length ≤ 30
          rw [l3]; simp; omega
        have gt : Good t := by rw [ht]; exact GT.out
        rw [← ht] at cg own7
        have KI2 := Lib.hid (fun w (h : RdS w t A7 B7 L7) => isShow_any t A7 B7 L7 t.sh.length c7 t.bs.length d7 t.log.length q7 w gt hlen.1 hlen.2.1 hlen.2.2 h.1 h.2.1 h.2.2)
        have TT := Lib.hid ht
        have lg := cg.lt
        have own7' := Lib.hid own7
        have rd7 := Lib.hid own7.rd
        clear gt hlen ht own7
        have k0 := cg 0 _ rfl; have k1 := cg 1 _ rfl; have k2 := cg 2 _ rfl; have k3 := cg 3 _ rfl; have k4 := cg 4 _ rfl; have k5 := cg 5 _ rfl; have k6 := cg 6 _ rfl; have k7 := cg 7 _ rfl; have k8 := cg 8 _ rfl; have k9 := cg 9 _ rfl; have k10 := cg 10 _ rfl; have k11 := cg 11 _ rfl
        go_wp2_with fail
        (with_reducible refine (KI2.out _ rd7.out).mono ?_)
        rintro r w8 ⟨rfl, hb8⟩
        replace h := h.step hb8
        replace cg := cg.keep hb8
        have own8 := Lib.hid (own7'.out.below hb8)
        clear k0 k1 k2 k3 k4 k5 k6 k7 k8 k9 k10 k11 lg rd7 own7' hb8
        cases hk : okS t
        · have DN := doE_not ER.out HH.out (by rw [← TT.out]; exact hk)
          clear KI2 cg own8
          have a0 := h.cx 0 _ rfl; have a1 := h.cx 1 _ rfl; have a2 := h.cx 2 _ rfl; have a3 := h.cx 3 _ rfl; have a4 := h.cx 4 _ rfl; have a5 := h.cx 5 _ rfl; have a6 := h.cx 6 _ rfl; have a7 := h.cx 7 _ rfl; have a8 := h.cx 8 _ rfl; have a9 := h.cx 9 _ rfl; have a10 := h.cx 10 _ rfl; have a11 := h.cx 11 _ rfl
          have lx : w.heap.size < w8.heap.size := by have := h.lt; omega
          have lo : w.heap.size + 1 + 1 < w8.heap.size := h.lt
          have bl := h.bel
          go_wp2_with fail
          (with_reducible refine (KC.out _ (HR.out.step bl)).mono ?_)
          rintro r w9 ⟨⟨A9, B9, L9, c9, d9, q9, rfl, own9⟩, hb9⟩
          have h9 := h.step hb9
          have OW9 := Lib.hid own9
          have lo9 : w.heap.size + 1 + 1 < w9.heap.size := h9.lt
          have H9 := Lib.hid h9
          have BL := Lib.hid bl.size
          have o0 := h9.co 0 _ rfl; have o1 := h9.co 1 _ rfl; have o2 := h9.co 2 _ rfl; have o3 := h9.co 3 _ rfl; have o4 := h9.co 4 _ rfl; have o5 := h9.co 5 _ rfl; have o6 := h9.co 6 _ rfl; have o7 := h9.co 7 _ rfl; have o8 := h9.co 8 _ rfl; have o9 := h9.co 9 _ rfl; have o10 := h9.co 10 _ rfl; have o11 := h9.co 11 _ rfl
          have f0 := h9.fo 0; have f1 := h9.fo 1; have f2 := h9.fo 2; have f3 := h9.fo 3; have f4 := h9.fo 4; have f5 := h9.fo 5; have f6 := h9.fo 6; have f7 := h9.fo 7; have f8 := h9.fo 8; have f9 := h9.fo 9; have f10 := h9.fo 10; have f11 := h9.fo 11
          clear a0 a1 a2 a3 a4 a5 a6 a7 a8 a9 a10 a11 own9 hb9 h9 bl
          go_wp2
          have hz := ((((((((((((H9.out.puto 0 (.int .i64 s.sz)).puto 1 (.float .f32 s.st)).puto 2 (.float .f32 s.li.1)).puto 3 (.float .f32 s.li.2.1)).puto 4 (.float .f32 s.li.2.2)).puto 5 (.slice A9 s.sh.length c9)).puto 6 (.int .i64 s.mir)).puto 7 (.complex .f32 s.gr.1 s.gr.2)).puto 8 (.float .f32 s.loss)).puto 9 (.slice B9 s.bs.length d9)).puto 10 (.int .i64 s.tk)).puto 11 (.slice L9 s.log.length q9))
          have z0 := hz.co 0 _ rfl; have z1 := hz.co 1 _ rfl; have z2 := hz.co 2 _ rfl; have z3 := hz.co 3 _ rfl; have z4 := hz.co 4 _ rfl; have z5 := hz.co 5 _ rfl; have z6 := hz.co 6 _ rfl; have z7 := hz.co 7 _ rfl; have z8 := hz.co 8 _ rfl; have z9 := hz.co 9 _ rfl; have z10 := hz.co 10 _ rfl; have z11 := hz.co 11 _ rfl
          refine bodyPost_ret (v := .tuple #[.agg #[.int .i64 s.sz, .float .f32 s.st, .float .f32 s.li.1, .float .f32 s.li.2.1, .float .f32 s.li.2.2, .slice A9 s.sh.length c9, .int .i64 s.mir, .complex .f32 s.gr.1 s.gr.2, .float .f32 s.loss, .slice B9 s.bs.length d9, .int .i64 s.tk, .slice L9 s.log.length q9], .bool false]) (by simp [results, Tryz.results8, go_sem, z0, z1, z2, z3, z4, z5, z6, z7, z8, z9, z10, z11]) rfl ⟨doI_mk (OwnS.mono ((((((((((((OW9.out.set _ lo _).set _ lo _).set _ lo _).set _ lo _).set _ lo _).set _ lo _).set _ lo _).set _ lo _).set _ lo _).set _ lo _).set _ lo _).set _ lo _) BL.out) (by rw [DN]; rfl) (by rw [DN]; rfl), hz.bel⟩
        · have HY := Lib.hid (doE_yes ER.out HH.out (by rw [← TT.out]; exact hk))
          have k0 := cg 0 _ rfl; have k1 := cg 1 _ rfl; have k2 := cg 2 _ rfl; have k3 := cg 3 _ rfl; have k4 := cg 4 _ rfl; have k5 := cg 5 _ rfl; have k6 := cg 6 _ rfl; have k7 := cg 7 _ rfl; have k8 := cg 8 _ rfl; have k9 := cg 9 _ rfl; have k10 := cg 10 _ rfl; have k11 := cg 11 _ rfl
          have o0 := h.co 0 _ rfl; have o1 := h.co 1 _ rfl; have o2 := h.co 2 _ rfl; have o3 := h.co 3 _ rfl; have o4 := h.co 4 _ rfl; have o5 := h.co 5 _ rfl; have o6 := h.co 6 _ rfl; have o7 := h.co 7 _ rfl; have o8 := h.co 8 _ rfl; have o9 := h.co 9 _ rfl; have o10 := h.co 10 _ rfl; have o11 := h.co 11 _ rfl
          have f0 := h.fo 0; have f1 := h.fo 1; have f2 := h.fo 2; have f3 := h.fo 3; have f4 := h.fo 4; have f5 := h.fo 5; have f6 := h.fo 6; have f7 := h.fo 7; have f8 := h.fo 8; have f9 := h.fo 9; have f10 := h.fo 10; have f11 := h.fo 11
          have lg := cg.lt
          have lo9 := h.lt
          have lo : w.heap.size + 1 + 1 < b5 := by omega
          have ngo : ¬ g = w.heap.size + 1 + 1 := by omega
          have BL := Lib.hid (show w.heap.size ≤ b5 by omega)
          go_wp2
          have hz := ((((((((((((h.puto 0 (.int .i64 t.sz)).puto 1 (.float .f32 t.st)).puto 2 (.float .f32 t.li.1)).puto 3 (.float .f32 t.li.2.1)).puto 4 (.float .f32 t.li.2.2)).puto 5 (.slice A7 t.sh.length c7)).puto 6 (.int .i64 t.mir)).puto 7 (.complex .f32 t.gr.1 t.gr.2)).puto 8 (.float .f32 t.loss)).puto 9 (.slice B7 t.bs.length d7)).puto 10 (.int .i64 t.tk)).puto 11 (.slice L7 t.log.length q7))
          have z0 := hz.co 0 _ rfl; have z1 := hz.co 1 _ rfl; have z2 := hz.co 2 _ rfl; have z3 := hz.co 3 _ rfl; have z4 := hz.co 4 _ rfl; have z5 := hz.co 5 _ rfl; have z6 := hz.co 6 _ rfl; have z7 := hz.co 7 _ rfl; have z8 := hz.co 8 _ rfl; have z9 := hz.co 9 _ rfl; have z10 := hz.co 10 _ rfl; have z11 := hz.co 11 _ rfl
          refine bodyPost_ret (v := .tuple #[.agg #[.int .i64 t.sz, .float .f32 t.st, .float .f32 t.li.1, .float .f32 t.li.2.1, .float .f32 t.li.2.2, .slice A7 t.sh.length c7, .int .i64 t.mir, .complex .f32 t.gr.1 t.gr.2, .float .f32 t.loss, .slice B7 t.bs.length d7, .int .i64 t.tk, .slice L7 t.log.length q7], .bool true]) (by simp [results, Tryz.results8, go_sem, z0, z1, z2, z3, z4, z5, z6, z7, z8, z9, z10, z11]) rfl ⟨doI_mk (OwnS.mono ((((((((((((own8.out.set _ lo _).set _ lo _).set _ lo _).set _ lo _).set _ lo _).set _ lo _).set _ lo _).set _ lo _).set _ lo _).set _ lo _).set _ lo _).set _ lo _) BL.out) (by rw [HY.out, TT.out]; rfl) (by rw [HY.out]; rfl), hz.bel⟩
end Go.Proofs.YthlphmojldbpkaaGreat
