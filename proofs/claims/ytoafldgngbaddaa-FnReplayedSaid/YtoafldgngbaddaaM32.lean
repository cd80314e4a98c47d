/- DrawS · Replay -/
import Derived.Test.YtoafldgngbaddaaDrawEv
import Derived.Test.YtoafldgngbaddaaM6
import Derived.Test.YtoafldgngbaddaaDoS
import Derived.Test.YtoafldgngbaddaaNewS3
import Derived.Test.YtoafldgngbaddaaM27
import Derived.Deep.CutRange
import Derived.Test.YtoafldgngbaddaaRunI
import Derived.Test.YtoafldgngbaddaaM30

/- l6Draw: a show that has gone on for a while. -/
namespace Go.Proofs.Ytoafldgngbaddaa
open Go.RowKit
attribute [local go_sem] run_store_float run_store_complex

/-- the answer's box and the box of the show, beside the cursor -/
structure DrW (W0 : World) (g : Nat) (A : Option Addr) (m c : Nat) (bs : List Int) (y : Nat) (l : List Value) (t : Shw) (S B L : Option Addr) (k d q : Nat) (W : World) : Prop where
  cx : CA W y l
  fx : FA W y
  co : CA W W0.heap.size shw0
  fo : FA W W0.heap.size
  hy : W0.heap.size < y
  lt : y < W.heap.size
  cur : CurB W g A m c bs
  gr : W0.grownBy W (some g)
  hg : g < W0.heap.size
  own : OwnS W (W0.heap.size + 1) t S B L k d q
  off : OffS t S B L k d q y
theorem OwnS.gro {w w' : World} {base g : Nat} {s : Shw} {A B L : Option Addr} {c d q : Nat} (h : OwnS w base s A B L c d q) (hg : w.grownBy w' (some g)) (hb : g < base) : OwnS w' base s A B L c d q :=
  have ne : ∀ {E : TypeId} {z n : Nat} {v : Value} {xs : List Value}, w.ownsRow base E z v n xs → ∀ k, some g = some k → Off v k := fun h k e => by injection e with e; subst e; exact off_lt h hb
  ⟨owns_grown h.1 hg (ne h.1), owns_grown h.2.1 hg (ne h.2.1), owns_grown h.2.2.1 hg (ne h.2.2.1), h.2.2.2⟩
theorem DrW.call {W0 W W' : World} {g : Nat} {A : Option Addr} {m c : Nat} {bs : List Int} {y : Nat} {l : List Value} {t : Shw} {S B L : Option Addr} {k d q : Nat} (h : DrW W0 g A m c bs y l t S B L k d q W) (hc : CurB W' g A m c bs) (hg : W.grownBy W' (some g)) : DrW W0 g A m c bs y l t S B L k d q W' :=
  have := h.hg
  have := h.hy
  have := h.lt
  have ny : ∀ k, some g = some k → y ≠ k := fun k e => by injection e with e; omega
  have no : ∀ k, some g = some k → W0.heap.size ≠ k := fun k e => by injection e with e; omega
  ⟨h.cx.grown hg ny, h.fx.grown h.lt hg ny, h.co.grown hg no, h.fo.grown (by omega) hg no, h.hy, Nat.lt_of_lt_of_le h.lt hg.size, hc, grown_trans h.gr hg, h.hg, h.own.gro hg (by omega), h.off⟩
theorem DrW.step {W0 W W' : World} {g : Nat} {A : Option Addr} {m c : Nat} {bs : List Int} {y : Nat} {l : List Value} {t : Shw} {S B L : Option Addr} {k d q : Nat} (h : DrW W0 g A m c bs y l t S B L k d q W) (hb : Below W.heap.size W W') : DrW W0 g A m c bs y l t S B L k d q W' :=
  h.call (h.cur.step hb) (grown_of_below hb _)
theorem DrW.put {W0 W : World} {g : Nat} {A : Option Addr} {m c : Nat} {bs : List Int} {y : Nat} {l : List Value} {t : Shw} {S B L : Option Addr} {k d q : Nat} (h : DrW W0 g A m c bs y l t S B L k d q W) (i : Nat) (u : Value) : DrW W0 g A m c bs y (l.set i u) t S B L k d q (W.setCell ⟨y, i, none⟩ u) :=
  have := h.hg
  have := h.hy
  ⟨h.cx.put i u, h.fx.set _ _, h.co.other ⟨y, i, none⟩ u (by show ¬ W0.heap.size = y; omega), h.fo.set _ _, h.hy, by have := h.lt; simp [World.setCell]; omega, curB_set h.cur (by show g < y; omega) _, grown_new h.gr (by show W0.heap.size ≤ y; omega) _, h.hg, h.own.setO h.off i u, h.off⟩
theorem DrW.puto {W0 W : World} {g : Nat} {A : Option Addr} {m c : Nat} {bs : List Int} {t : Shw} {S B L : Option Addr} {k d q : Nat} {o : List Value}
    (h : CA W W0.heap.size o ∧ CurB W g A m c bs ∧ W0.grownBy W (some g) ∧ g < W0.heap.size ∧ OwnS W (W0.heap.size + 1) t S B L k d q) (i : Nat) (u : Value) :
    CA (W.setCell ⟨W0.heap.size, i, none⟩ u) W0.heap.size (o.set i u) ∧ CurB (W.setCell ⟨W0.heap.size, i, none⟩ u) g A m c bs ∧ W0.grownBy (W.setCell ⟨W0.heap.size, i, none⟩ u) (some g) ∧ g < W0.heap.size ∧ OwnS (W.setCell ⟨W0.heap.size, i, none⟩ u) (W0.heap.size + 1) t S B L k d q :=
  ⟨h.1.put i u, curB_set h.2.1 h.2.2.2.1 _, grown_new h.2.2.1 (Nat.le_refl _) _, h.2.2.2.1, h.2.2.2.2.set _ (Nat.lt_succ_self _) u⟩
/-- another show in the box -/
theorem DrW.own' {W0 W : World} {g : Nat} {A : Option Addr} {m c : Nat} {bs : List Int} {y : Nat} {l : List Value} {t t' : Shw} {S B L S' B' L' : Option Addr} {k d q k' d' q' b : Nat} (h : DrW W0 g A m c bs y l t S B L k d q W) (own : OwnS W b t' S' B' L' k' d' q') (hb : W0.heap.size + 1 ≤ b) (hy : y < b) : DrW W0 g A m c bs y l t' S' B' L' k' d' q' W :=
  ⟨h.cx, h.fx, h.co, h.fo, h.hy, h.lt, h.cur, h.gr, h.hg, own.mono hb, own.offLt hy⟩
theorem ownS_new (w : World) (b : Nat) (sz : Int) (st : Nat) : OwnS w b (newS sz st) none none none 0 0 0 :=
  ⟨⟨rfl, .inl ⟨rfl, rfl⟩⟩, ⟨rfl, .inl ⟨rfl, rfl⟩⟩, ⟨rfl, .inl ⟨rfl, rfl⟩⟩, (fun g e => by cases e), (fun g e => by cases e), (fun g e => by cases e)⟩
theorem offS_new (sz : Int) (st g : Nat) : OffS (newS sz st) none none none 0 0 0 g := ⟨(fun e => by cases e), (fun e => by cases e), (fun e => by cases e)⟩
def stepsD : List Nat := [1056964608, 1065353216, 1073741824, 1050253722]
theorem stepsD_ok {st : Nat} (h : st ∈ stepsD) : stpB st = true := by
  have : ∀ x ∈ stepsD, stpB x = true := by decide +kernel
  exact this st h

/-! ### a region that loads the show, draws, and does an event -/
theorem drT0 {W0 X : World} {g : Nat} {A : Option Addr} {m c : Nat} {bs : List Int} {y : Nat} {l : List Value} {t : Shw} {S B L : Option Addr} {k d q : Nat} (h : DrW W0 g A m c bs y l t S B L k d q X) :
    (∀ o, X.cell? ⟨y, o, none⟩ = X.cell? ⟨y, o, none⟩) ∧ X.grownBy X (some g) ∧ CurB X g A m c bs := ⟨fun _ => rfl, World.grownBy.refl _ _, h.cur⟩
theorem drT0d {W0 X : World} {g : Nat} {A : Option Addr} {m c : Nat} {bs : List Int} {y : Nat} {l : List Value} {t : Shw} {S B L : Option Addr} {k d q : Nat} (h : DrW W0 g A m c bs y l t S B L k d q X) :
    (∀ o, X.drew.cell? ⟨y, o, none⟩ = X.cell? ⟨y, o, none⟩) ∧ X.grownBy X.drew (some g) ∧ CurB X.drew g A m c bs := ⟨fun _ => rfl, grown_drewN (World.grownBy.refl _ _) 1, h.cur.drew⟩
theorem drT0n {W0 X : World} {g : Nat} {A : Option Addr} {m c : Nat} {bs : List Int} {y : Nat} {l : List Value} {t : Shw} {S B L : Option Addr} {k d q : Nat} (h : DrW W0 g A m c bs y l t S B L k d q X) (n : Nat) :
    (∀ o, (X.drewN n).cell? ⟨y, o, none⟩ = X.cell? ⟨y, o, none⟩) ∧ X.grownBy (X.drewN n) (some g) ∧ CurB (X.drewN n) g A m c bs := ⟨fun _ => rfl, grown_drewN (World.grownBy.refl _ _) n, h.cur.step (below_drewN (Below.refl _ _) n)⟩
theorem drT1 {W0 X w' w'' : World} {g : Nat} {A : Option Addr} {m c : Nat} {bs : List Int} {y : Nat} {l : List Value} {t : Shw} {S B L : Option Addr} {k d q : Nat} (h : DrW W0 g A m c bs y l t S B L k d q X)
    (hS : (∀ o, w'.cell? ⟨y, o, none⟩ = X.cell? ⟨y, o, none⟩) ∧ X.grownBy w' (some g) ∧ CurB w' g A m c bs) (hc : CurB w'' g A m c bs) (hg : w'.grownBy w'' (some g)) :
    (∀ o, w''.cell? ⟨y, o, none⟩ = X.cell? ⟨y, o, none⟩) ∧ X.grownBy w'' (some g) ∧ CurB w'' g A m c bs :=
  have := h.lt
  have := h.hy
  have := h.hg
  ⟨fun o => ((gcell hg).1 y o (Nat.lt_of_lt_of_le h.lt hS.2.1.size) (by omega)).trans (hS.1 o), grown_trans hS.2.1 hg, hc⟩
theorem drT2 {W0 X w' w'' : World} {g : Nat} {A : Option Addr} {m c : Nat} {bs : List Int} {y : Nat} {l : List Value} {t : Shw} {S B L : Option Addr} {k d q : Nat} (h : DrW W0 g A m c bs y l t S B L k d q X)
    (hS : (∀ o, w'.cell? ⟨y, o, none⟩ = X.cell? ⟨y, o, none⟩) ∧ X.grownBy w' (some g) ∧ CurB w' g A m c bs) (hb : Below w'.heap.size w' w'') :
    (∀ o, w''.cell? ⟨y, o, none⟩ = X.cell? ⟨y, o, none⟩) ∧ X.grownBy w'' (some g) ∧ CurB w'' g A m c bs := drT1 h hS (hS.2.2.step hb) (grown_of_below hb _)
theorem drT3 {W0 X w' : World} {g : Nat} {A : Option Addr} {m c : Nat} {bs : List Int} {y : Nat} {l : List Value} {t : Shw} {S B L : Option Addr} {k d q : Nat} (h : DrW W0 g A m c bs y l t S B L k d q X)
    (hS : (∀ o, w'.cell? ⟨y, o, none⟩ = X.cell? ⟨y, o, none⟩) ∧ X.grownBy w' (some g) ∧ CurB w' g A m c bs) (o : Obj) :
    (∀ i, (w'.alloc o).cell? ⟨y, i, none⟩ = X.cell? ⟨y, i, none⟩) ∧ X.grownBy (w'.alloc o) (some g) ∧ CurB (w'.alloc o) g A m c bs := drT2 h hS (by (repeat (first | with_reducible assumption | exact Below.refl _ _ | (refine Below.setCell ?_ (by first | exact Nat.le_refl _ | (simp; done) | omega | (simp; omega)) _) | (refine below_drewN ?_ _) | (refine Below.drew ?_) | (refine Below.alloc ?_ (by first | exact Nat.le_refl _ | (simp; done) | omega | (simp; omega)) _) | (refine then_ ?_ (by with_reducible assumption)) | assumption | (refine then_ ?_ (by assumption)))))
theorem drT {W0 X w' : World} {g : Nat} {A : Option Addr} {m c : Nat} {bs : List Int} {y : Nat} {l : List Value} {t : Shw} {S B L : Option Addr} {k d q : Nat} (h : DrW W0 g A m c bs y l t S B L k d q X)
    (hS : (∀ o, w'.cell? ⟨y, o, none⟩ = X.cell? ⟨y, o, none⟩) ∧ X.grownBy w' (some g) ∧ CurB w' g A m c bs) : DrW W0 g A m c bs y l t S B L k d q w' := h.call hS.2.2 hS.2.1
theorem drDo {W0 X w' w'' : World} {g : Nat} {A : Option Addr} {m c : Nat} {bs : List Int} {y : Nat} {l : List Value} {t t' : Shw} {S B L S' B' L' : Option Addr} {k d q k' d' q' : Nat} (h : DrW W0 g A m c bs y l t S B L k d q X)
    (hS : (∀ o, w'.cell? ⟨y, o, none⟩ = X.cell? ⟨y, o, none⟩) ∧ X.grownBy w' (some g) ∧ CurB w' g A m c bs) (hb : Below w'.heap.size w' w'') (own : OwnS w'' w'.heap.size t' S' B' L' k' d' q') : DrW W0 g A m c bs y l t' S' B' L' k' d' q' w'' :=
  have k := drT h hS
  (k.step hb).own' own (by have := k.hy; have := k.lt; omega) k.lt
theorem mirL (w : World) : ∀ y, y < 5 → ∃ x, True ∧ (w.alloc (Obj.cells #[.int .i64 0, .int .i64 1, .int .i64 2, .int .i64 3, .int .i64 3] 3)).cell? ⟨w.heap.size, y, none⟩ = some (.int .i64 x) := by
  intro y hy
  have e : y = 0 ∨ y = 1 ∨ y = 2 ∨ y = 3 ∨ y = 4 := by omega
  rcases e with rfl | rfl | rfl | rfl | rfl
  · exact ⟨0, trivial, by simp [go_sem]⟩
  · exact ⟨1, trivial, by simp [go_sem]⟩
  · exact ⟨2, trivial, by simp [go_sem]⟩
  · exact ⟨3, trivial, by simp [go_sem]⟩
  · exact ⟨3, trivial, by simp [go_sem]⟩
/-- what DoEvent hands back, of a drawn show -/
def DoneS (_ : Shw) (base : Nat) (r : Ending) (w' : World) : Prop :=
  ∃ (u : Shw) (b : Bool) (A B L : Option Addr) (c d q : Nat), Drawn u ∧ r = .returned (.tuple #[.agg #[.int .i64 u.sz, .float .f32 u.st, .float .f32 u.li.1, .float .f32 u.li.2.1, .float .f32 u.li.2.2, .slice A u.sh.length c, .int .i64 u.mir, .complex .f32 u.gr.1 u.gr.2, .float .f32 u.loss, .slice B u.bs.length d, .int .i64 u.tk, .slice L u.log.length q], .bool b]) ∧ OwnS w' base u A B L c d q
theorem specDoEvent_drawn (s : Shw) (e : Ev) (A B L : Option Addr) (c d q : Nat) (w : World) (hd : Drawn s) (he : evG e = true) (hr : RdS w s A B L) :
    Calls Try.prog 61 #[.agg #[.int .i64 s.sz, .float .f32 s.st, .float .f32 s.li.1, .float .f32 s.li.2.1, .float .f32 s.li.2.2, .slice A s.sh.length c, .int .i64 s.mir, .complex .f32 s.gr.1 s.gr.2, .float .f32 s.loss, .slice B s.bs.length d, .int .i64 s.tk, .slice L s.log.length q], .agg #[.int .i64 e.k, .int .i64 e.n, .complex .f32 e.z.1 e.z.2, .complex .f32 e.s.1.1 e.s.1.2, .complex .f32 e.s.2.1.1 e.s.2.1.2, .complex .f32 e.s.2.2.1.1 e.s.2.2.1.2, .float .f32 e.s.2.2.2.1.1, .float .f32 e.s.2.2.2.1.2.1, .float .f32 e.s.2.2.2.1.2.2, .float .f32 e.s.2.2.2.2, .float .f32 e.c.1, .float .f32 e.c.2.1, .float .f32 e.c.2.2]] w fun r w' => DoneS s w.heap.size r w' ∧ Below w.heap.size w w' := by
  refine (specDoEvent_any s e A B L c d q w hd.good hd.ok he hr).mono ?_
  rintro r w' ⟨⟨A2, B2, L2, c2, d2, q2, rfl, own⟩, hb⟩
  exact ⟨⟨_, _, A2, B2, L2, c2, d2, q2, drawn_doD hd he, rfl, own⟩, hb⟩
end Go.Proofs.Ytoafldgngbaddaa

/- ReplayShow: the program's, of drawn shows. -/
namespace Go.Proofs.Ytoafldgngbaddaa
open Go.RowKit
attribute [local go_sem] run_store_float run_store_complex

theorem newOk_good {s : Shw} (h : Good s) : newOk 0 s.sz s.st 0 0 0 = true := by
  unfold newOk
  rw [h.sz, h.st, show colB (0, 0, 0) = true by decide +kernel]
  rfl
theorem rdS_new (w : World) (sz : Int) (st : Nat) : RdS w (newS sz st) none none none := ⟨Rd.nil_, Rd.nil_, Rd.nil_⟩
theorem OwnS.size {w : World} {base : Nat} {s : Shw} {A B L : Option Addr} {c d q : Nat} (_ : OwnS w base s A B L c d q) : True := trivial
theorem OwnS.alloc {w : World} {base : Nat} {s : Shw} {A B L : Option Addr} {c d q : Nat} (h : OwnS w base s A B L c d q) (_ : True) (o : Obj) : OwnS (w.alloc o) base s A B L c d q := h.below (Below.alloc (Below.refl _ _) (Nat.le_refl _) _)
/-- RunShow goes through where the plain run does -/
theorem runShow_all (s u : Shw) (es : List Ev) (A B L H : Option Addr) (c d q n nc : Nat) (w : World) (hg : Good s) (hk : okS s = true) (he : es.all evG = true) (hn : n ≤ 1000) (hr : RdS w s A B L) (rE : Rd evC 13 w w.heap.size H n es) (hu : runK s es n = some u) :
    Calls Try.prog 18 #[.agg #[.int .i64 s.sz, .float .f32 s.st, .float .f32 s.li.1, .float .f32 s.li.2.1, .float .f32 s.li.2.2, .slice A s.sh.length c, .int .i64 s.mir, .complex .f32 s.gr.1 s.gr.2, .float .f32 s.loss, .slice B s.bs.length d, .int .i64 s.tk, .slice L s.log.length q], .slice H n nc] w fun r w' => (∃ A B L c d q, r = .returned (.tuple #[.agg #[.int .i64 u.sz, .float .f32 u.st, .float .f32 u.li.1, .float .f32 u.li.2.1, .float .f32 u.li.2.2, .slice A u.sh.length c, .int .i64 u.mir, .complex .f32 u.gr.1 u.gr.2, .float .f32 u.loss, .slice B u.bs.length d, .int .i64 u.tk, .slice L u.log.length q], .int .i64 (n : Int)]) ∧ OwnS w' w.heap.size u A B L c d q) ∧ Below w.heap.size w w' := by
  refine (runShow_any s es A B L H c d q n nc w hg hk he hn hr rE).mono ?_
  rintro r w' ⟨⟨k, t, A1, B1, L1, c1, d1, q1, hrun, hkn, hc, rfl, own⟩, hb⟩
  obtain ⟨rfl, rfl⟩ := run_all hu hrun hkn hc
  exact ⟨⟨A1, B1, L1, c1, d1, q1, rfl, own⟩, hb⟩

set_option maxRecDepth 100000 in
set_option maxHeartbeats 8000000 in
theorem replayShow_any (s : Shw) (A B L : Option Addr) (c d q : Nat) (w : World) (hd : Drawn s) (hr : RdS w s A B L) :
    Calls Try.prog 17 #[.agg #[.int .i64 s.sz, .float .f32 s.st, .float .f32 s.li.1, .float .f32 s.li.2.1, .float .f32 s.li.2.2, .slice A s.sh.length c, .int .i64 s.mir, .complex .f32 s.gr.1 s.gr.2, .float .f32 s.loss, .slice B s.bs.length d, .int .i64 s.tk, .slice L s.log.length q]] w fun r w' => (∃ A B L c d q, r = .returned (.tuple #[.agg #[.int .i64 s.sz, .float .f32 s.st, .float .f32 s.li.1, .float .f32 s.li.2.1, .float .f32 s.li.2.2, .slice A s.sh.length c, .int .i64 s.mir, .complex .f32 s.gr.1 s.gr.2, .float .f32 s.loss, .slice B s.bs.length d, .int .i64 s.tk, .slice L s.log.length q], .bool true]) ∧ OwnS w' w.heap.size s A B L c d q) ∧ Below w.heap.size w w' := by
  obtain ⟨p1, p2, p3, p4⟩ := okS_parts.1 hd.ok
  have hg := hd.good
  have hl := hg.len
  have KI := Lib.hid (fun w (h : RdS w s A B L) => isShow_any s A B L s.sh.length c s.bs.length d s.log.length q w hg (by omega) (by omega) (by omega) h.1 h.2.1 h.2.2)
  rw [hd.ok] at KI
  have KN := fun w => newShow_any 0 s.sz s.st 0 0 0 w
  simp only [madeV, newOk_good hg, if_true, newV] at KN
  have KN := Lib.hid KN
  have ND := new_drawn hg.sz hg.st
  have KR := Lib.hid (fun w (h : Rd evC 13 w w.heap.size L s.log.length s.log) => (show Calls Try.prog 18 #[.agg #[.int .i64 s.sz, .float .f32 s.st, .float .f32 0, .float .f32 0, .float .f32 0, .slice none 0 0, .int .i64 0, .complex .f32 0 0, .float .f32 0, .slice none 0 0, .int .i64 0, .slice none 0 0], .slice L s.log.length q] w fun r w' => (∃ A B L c d q, r = .returned (.tuple #[.agg #[.int .i64 s.sz, .float .f32 s.st, .float .f32 s.li.1, .float .f32 s.li.2.1, .float .f32 s.li.2.2, .slice A s.sh.length c, .int .i64 s.mir, .complex .f32 s.gr.1 s.gr.2, .float .f32 s.loss, .slice B s.bs.length d, .int .i64 s.tk, .slice L s.log.length q], .int .i64 (s.log.length : Int)]) ∧ OwnS w' w.heap.size s A B L c d q) ∧ Below w.heap.size w w' from runShow_all (newS s.sz s.st) s s.log none none none L 0 0 0 s.log.length q w ND.good ND.ok (good_evs hg) (by omega) (rdS_new _ _ _) h hd.run))
  have HR := Lib.hid hr
  have hlt : decide ((s.log.length : Int) < (s.log.length : Int)) = false := by simp
  clear hr hg hd p1 p2 p3 p4 hl ND
  go_enter Try.func17, Try.ntmps17
  go_upto_region 1 with fail
  have hW := Below.refl w.heap.size w
  have ca := CA.new w #[.int .i64 s.sz, .float .f32 s.st, .float .f32 s.li.1, .float .f32 s.li.2.1, .float .f32 s.li.2.2, .slice A s.sh.length c, .int .i64 s.mir, .complex .f32 s.gr.1 s.gr.2, .float .f32 s.loss, .slice B s.bs.length d, .int .i64 s.tk, .slice L s.log.length q] 33; have fa := FA.new w #[.int .i64 s.sz, .float .f32 s.st, .float .f32 s.li.1, .float .f32 s.li.2.1, .float .f32 s.li.2.2, .slice A s.sh.length c, .int .i64 s.mir, .complex .f32 s.gr.1 s.gr.2, .float .f32 s.loss, .slice B s.bs.length d, .int .i64 s.tk, .slice L s.log.length q] 33; replace hW := hW.alloc (hW.size) (Obj.cells #[.int .i64 s.sz, .float .f32 s.st, .float .f32 s.li.1, .float .f32 s.li.2.1, .float .f32 s.li.2.2, .slice A s.sh.length c, .int .i64 s.mir, .complex .f32 s.gr.1 s.gr.2, .float .f32 s.loss, .slice B s.bs.length d, .int .i64 s.tk, .slice L s.log.length q] 33); obtain ⟨V1, hV1e⟩ : ∃ V1, V1 = w.alloc (Obj.cells #[.int .i64 s.sz, .float .f32 s.st, .float .f32 s.li.1, .float .f32 s.li.2.1, .float .f32 s.li.2.2, .slice A s.sh.length c, .int .i64 s.mir, .complex .f32 s.gr.1 s.gr.2, .float .f32 s.loss, .slice B s.bs.length d, .int .i64 s.tk, .slice L s.log.length q] 33) := ⟨_, rfl⟩; have zV1 : V1.heap.size = w.heap.size + 1 := (by rw [hV1e]; simp); rw [← hV1e] at ca fa hW; rw [← hV1e]; clear hV1e; have la := ca.lt
  have co := CA.new V1 #[.int .i64 0, .float .f32 0, .float .f32 0, .float .f32 0, .float .f32 0, .slice none 0 0, .int .i64 0, .complex .f32 0 0, .float .f32 0, .slice none 0 0, .int .i64 0, .slice none 0 0] 33; have fo := FA.new V1 #[.int .i64 0, .float .f32 0, .float .f32 0, .float .f32 0, .float .f32 0, .slice none 0 0, .int .i64 0, .complex .f32 0 0, .float .f32 0, .slice none 0 0, .int .i64 0, .slice none 0 0] 33; replace ca := ca.alloc (Obj.cells #[.int .i64 0, .float .f32 0, .float .f32 0, .float .f32 0, .float .f32 0, .slice none 0 0, .int .i64 0, .complex .f32 0 0, .float .f32 0, .slice none 0 0, .int .i64 0, .slice none 0 0] 33); replace fa := fa.alloc la (Obj.cells #[.int .i64 0, .float .f32 0, .float .f32 0, .float .f32 0, .float .f32 0, .slice none 0 0, .int .i64 0, .complex .f32 0 0, .float .f32 0, .slice none 0 0, .int .i64 0, .slice none 0 0] 33); replace hW := hW.alloc (hW.size) (Obj.cells #[.int .i64 0, .float .f32 0, .float .f32 0, .float .f32 0, .float .f32 0, .slice none 0 0, .int .i64 0, .complex .f32 0 0, .float .f32 0, .slice none 0 0, .int .i64 0, .slice none 0 0] 33); obtain ⟨V, hVe⟩ : ∃ V, V = V1.alloc (Obj.cells #[.int .i64 0, .float .f32 0, .float .f32 0, .float .f32 0, .float .f32 0, .slice none 0 0, .int .i64 0, .complex .f32 0 0, .float .f32 0, .slice none 0 0, .int .i64 0, .slice none 0 0] 33) := ⟨_, rfl⟩; have zV : V.heap.size = V1.heap.size + 1 := (by rw [hVe]; simp); rw [← hVe] at co fo ca fa hW; rw [← hVe]; clear hVe; have lo := co.lt; replace la := ca.lt
  rw [zV1] at co fo lo zV
  clear zV1
  have a0 := ca 0 _ rfl; have a1 := ca 1 _ rfl; have a2 := ca 2 _ rfl; have a3 := ca 3 _ rfl; have a4 := ca 4 _ rfl; have a5 := ca 5 _ rfl; have a6 := ca 6 _ rfl; have a7 := ca 7 _ rfl; have a8 := ca 8 _ rfl; have a9 := ca 9 _ rfl; have a10 := ca 10 _ rfl; have a11 := ca 11 _ rfl
  go_wp2_with fail
  (with_reducible refine (KI.out _ (HR.out.step hW)).mono ?_)
  rintro r w1 ⟨rfl, hb1⟩
  clear a0 a1 a2 a3 a4 a5 a6 a7 a8 a9 a10 a11
  replace ca := ca.keep hb1; replace fa := fa.keep hb1 la; replace la := ca.lt; replace co := co.keep hb1; replace fo := fo.keep hb1 lo; replace lo := co.lt; replace hW := then_ hW hb1
  have a0 := ca 0 _ rfl; have a1 := ca 1 _ rfl; have a2 := ca 2 _ rfl; have a3 := ca 3 _ rfl; have a4 := ca 4 _ rfl; have a5 := ca 5 _ rfl; have a6 := ca 6 _ rfl; have a7 := ca 7 _ rfl; have a8 := ca 8 _ rfl; have a9 := ca 9 _ rfl; have a10 := ca 10 _ rfl; have a11 := ca 11 _ rfl
  clear hb1 KI
  go_wp2_with fail
  (with_reducible refine (KN.out _).mono ?_)
  rintro r w2 ⟨rfl, hb1⟩
  clear a0 a1 a2 a3 a4 a5 a6 a7 a8 a9 a10 a11
  replace ca := ca.keep hb1; replace fa := fa.keep hb1 la; replace la := ca.lt; replace co := co.keep hb1; replace fo := fo.keep hb1 lo; replace lo := co.lt; replace hW := then_ hW hb1
  have a0 := ca 0 _ rfl; have a1 := ca 1 _ rfl; have a2 := ca 2 _ rfl; have a3 := ca 3 _ rfl; have a4 := ca 4 _ rfl; have a5 := ca 5 _ rfl; have a6 := ca 6 _ rfl; have a7 := ca 7 _ rfl; have a8 := ca 8 _ rfl; have a9 := ca 9 _ rfl; have a10 := ca 10 _ rfl; have a11 := ca 11 _ rfl
  clear hb1 KN
  go_upto_region 4 with fail
  clear a0 a1 a2 a3 a4 a5 a6 a7 a8 a9 a10 a11
  have cn := CA.new w2 #[.int .i64 s.sz, .float .f32 s.st, .float .f32 0, .float .f32 0, .float .f32 0, .slice none 0 0, .int .i64 0, .complex .f32 0 0, .float .f32 0, .slice none 0 0, .int .i64 0, .slice none 0 0] 33; have fn := FA.new w2 #[.int .i64 s.sz, .float .f32 s.st, .float .f32 0, .float .f32 0, .float .f32 0, .slice none 0 0, .int .i64 0, .complex .f32 0 0, .float .f32 0, .slice none 0 0, .int .i64 0, .slice none 0 0] 33; replace ca := ca.alloc (Obj.cells #[.int .i64 s.sz, .float .f32 s.st, .float .f32 0, .float .f32 0, .float .f32 0, .slice none 0 0, .int .i64 0, .complex .f32 0 0, .float .f32 0, .slice none 0 0, .int .i64 0, .slice none 0 0] 33); replace fa := fa.alloc la (Obj.cells #[.int .i64 s.sz, .float .f32 s.st, .float .f32 0, .float .f32 0, .float .f32 0, .slice none 0 0, .int .i64 0, .complex .f32 0 0, .float .f32 0, .slice none 0 0, .int .i64 0, .slice none 0 0] 33); replace co := co.alloc (Obj.cells #[.int .i64 s.sz, .float .f32 s.st, .float .f32 0, .float .f32 0, .float .f32 0, .slice none 0 0, .int .i64 0, .complex .f32 0 0, .float .f32 0, .slice none 0 0, .int .i64 0, .slice none 0 0] 33); replace fo := fo.alloc lo (Obj.cells #[.int .i64 s.sz, .float .f32 s.st, .float .f32 0, .float .f32 0, .float .f32 0, .slice none 0 0, .int .i64 0, .complex .f32 0 0, .float .f32 0, .slice none 0 0, .int .i64 0, .slice none 0 0] 33); replace hW := hW.alloc (hW.size) (Obj.cells #[.int .i64 s.sz, .float .f32 s.st, .float .f32 0, .float .f32 0, .float .f32 0, .slice none 0 0, .int .i64 0, .complex .f32 0 0, .float .f32 0, .slice none 0 0, .int .i64 0, .slice none 0 0] 33); obtain ⟨V3, hV3e⟩ : ∃ V3, V3 = w2.alloc (Obj.cells #[.int .i64 s.sz, .float .f32 s.st, .float .f32 0, .float .f32 0, .float .f32 0, .slice none 0 0, .int .i64 0, .complex .f32 0 0, .float .f32 0, .slice none 0 0, .int .i64 0, .slice none 0 0] 33) := ⟨_, rfl⟩; have zV3 : V3.heap.size = w2.heap.size + 1 := (by rw [hV3e]; simp); rw [← hV3e] at cn fn ca fa co fo hW; rw [← hV3e]; clear hV3e; have ln := cn.lt; replace la := ca.lt; replace lo := co.lt
  have a0 := ca 0 _ rfl; have a1 := ca 1 _ rfl; have a2 := ca 2 _ rfl; have a3 := ca 3 _ rfl; have a4 := ca 4 _ rfl; have a5 := ca 5 _ rfl; have a6 := ca 6 _ rfl; have a7 := ca 7 _ rfl; have a8 := ca 8 _ rfl; have a9 := ca 9 _ rfl; have a10 := ca 10 _ rfl; have a11 := ca 11 _ rfl
  have n0 := cn 0 _ rfl; have n1 := cn 1 _ rfl; have n2 := cn 2 _ rfl; have n3 := cn 3 _ rfl; have n4 := cn 4 _ rfl; have n5 := cn 5 _ rfl; have n6 := cn 6 _ rfl; have n7 := cn 7 _ rfl; have n8 := cn 8 _ rfl; have n9 := cn 9 _ rfl; have n10 := cn 10 _ rfl; have n11 := cn 11 _ rfl
  go_wp2_with fail
  (with_reducible refine (KR.out _ (HR.out.step hW).rl).mono ?_)
  rintro r w3 ⟨⟨A1, B1, L1, c1, d1, q1, rfl, own⟩, hb1⟩
  clear a0 a1 a2 a3 a4 a5 a6 a7 a8 a9 a10 a11 n0 n1 n2 n3 n4 n5 n6 n7 n8 n9 n10 n11
  have z3 := zV3
  have lw0 : w.heap.size + 1 < V3.heap.size := lo
  replace ca := ca.keep hb1; replace fa := fa.keep hb1 la; replace la := ca.lt; replace co := co.keep hb1; replace fo := fo.keep hb1 lo; replace lo := co.lt; replace hW := then_ hW hb1
  have a0 := ca 0 _ rfl; have a1 := ca 1 _ rfl; have a2 := ca 2 _ rfl; have a3 := ca 3 _ rfl; have a4 := ca 4 _ rfl; have a5 := ca 5 _ rfl; have a6 := ca 6 _ rfl; have a7 := ca 7 _ rfl; have a8 := ca 8 _ rfl; have a9 := ca 9 _ rfl; have a10 := ca 10 _ rfl; have a11 := ca 11 _ rfl
  clear hb1 KR
  go_upto_region 5 with fail
  clear a0 a1 a2 a3 a4 a5 a6 a7 a8 a9 a10 a11
  have cm := CA.new w3 #[.int .i64 s.sz, .float .f32 s.st, .float .f32 s.li.1, .float .f32 s.li.2.1, .float .f32 s.li.2.2, .slice A1 s.sh.length c1, .int .i64 s.mir, .complex .f32 s.gr.1 s.gr.2, .float .f32 s.loss, .slice B1 s.bs.length d1, .int .i64 s.tk, .slice L1 s.log.length q1] 33; have fm := FA.new w3 #[.int .i64 s.sz, .float .f32 s.st, .float .f32 s.li.1, .float .f32 s.li.2.1, .float .f32 s.li.2.2, .slice A1 s.sh.length c1, .int .i64 s.mir, .complex .f32 s.gr.1 s.gr.2, .float .f32 s.loss, .slice B1 s.bs.length d1, .int .i64 s.tk, .slice L1 s.log.length q1] 33; replace ca := ca.alloc (Obj.cells #[.int .i64 s.sz, .float .f32 s.st, .float .f32 s.li.1, .float .f32 s.li.2.1, .float .f32 s.li.2.2, .slice A1 s.sh.length c1, .int .i64 s.mir, .complex .f32 s.gr.1 s.gr.2, .float .f32 s.loss, .slice B1 s.bs.length d1, .int .i64 s.tk, .slice L1 s.log.length q1] 33); replace fa := fa.alloc la (Obj.cells #[.int .i64 s.sz, .float .f32 s.st, .float .f32 s.li.1, .float .f32 s.li.2.1, .float .f32 s.li.2.2, .slice A1 s.sh.length c1, .int .i64 s.mir, .complex .f32 s.gr.1 s.gr.2, .float .f32 s.loss, .slice B1 s.bs.length d1, .int .i64 s.tk, .slice L1 s.log.length q1] 33); replace co := co.alloc (Obj.cells #[.int .i64 s.sz, .float .f32 s.st, .float .f32 s.li.1, .float .f32 s.li.2.1, .float .f32 s.li.2.2, .slice A1 s.sh.length c1, .int .i64 s.mir, .complex .f32 s.gr.1 s.gr.2, .float .f32 s.loss, .slice B1 s.bs.length d1, .int .i64 s.tk, .slice L1 s.log.length q1] 33); replace fo := fo.alloc lo (Obj.cells #[.int .i64 s.sz, .float .f32 s.st, .float .f32 s.li.1, .float .f32 s.li.2.1, .float .f32 s.li.2.2, .slice A1 s.sh.length c1, .int .i64 s.mir, .complex .f32 s.gr.1 s.gr.2, .float .f32 s.loss, .slice B1 s.bs.length d1, .int .i64 s.tk, .slice L1 s.log.length q1] 33); replace hW := hW.alloc (hW.size) (Obj.cells #[.int .i64 s.sz, .float .f32 s.st, .float .f32 s.li.1, .float .f32 s.li.2.1, .float .f32 s.li.2.2, .slice A1 s.sh.length c1, .int .i64 s.mir, .complex .f32 s.gr.1 s.gr.2, .float .f32 s.loss, .slice B1 s.bs.length d1, .int .i64 s.tk, .slice L1 s.log.length q1] 33); replace own := own.alloc (own.size) (Obj.cells #[.int .i64 s.sz, .float .f32 s.st, .float .f32 s.li.1, .float .f32 s.li.2.1, .float .f32 s.li.2.2, .slice A1 s.sh.length c1, .int .i64 s.mir, .complex .f32 s.gr.1 s.gr.2, .float .f32 s.loss, .slice B1 s.bs.length d1, .int .i64 s.tk, .slice L1 s.log.length q1] 33); obtain ⟨V5, hV5e⟩ : ∃ V5, V5 = w3.alloc (Obj.cells #[.int .i64 s.sz, .float .f32 s.st, .float .f32 s.li.1, .float .f32 s.li.2.1, .float .f32 s.li.2.2, .slice A1 s.sh.length c1, .int .i64 s.mir, .complex .f32 s.gr.1 s.gr.2, .float .f32 s.loss, .slice B1 s.bs.length d1, .int .i64 s.tk, .slice L1 s.log.length q1] 33) := ⟨_, rfl⟩; have zV5 : V5.heap.size = w3.heap.size + 1 := (by rw [hV5e]; simp); rw [← hV5e] at cm fm ca fa co fo hW own; rw [← hV5e]; clear hV5e; have lm := cm.lt; replace la := ca.lt; replace lo := co.lt
  have a0 := ca 0 _ rfl; have a1 := ca 1 _ rfl; have a2 := ca 2 _ rfl; have a3 := ca 3 _ rfl; have a4 := ca 4 _ rfl; have a5 := ca 5 _ rfl; have a6 := ca 6 _ rfl; have a7 := ca 7 _ rfl; have a8 := ca 8 _ rfl; have a9 := ca 9 _ rfl; have a10 := ca 10 _ rfl; have a11 := ca 11 _ rfl
  have m0 := cm 0 _ rfl; have m1 := cm 1 _ rfl; have m2 := cm 2 _ rfl; have m3 := cm 3 _ rfl; have m4 := cm 4 _ rfl; have m5 := cm 5 _ rfl; have m6 := cm 6 _ rfl; have m7 := cm 7 _ rfl; have m8 := cm 8 _ rfl; have m9 := cm 9 _ rfl; have m10 := cm 10 _ rfl; have m11 := cm 11 _ rfl
  have o0 := co 0 _ rfl; have o1 := co 1 _ rfl; have o2 := co 2 _ rfl; have o3 := co 3 _ rfl; have o4 := co 4 _ rfl; have o5 := co 5 _ rfl; have o6 := co 6 _ rfl; have o7 := co 7 _ rfl; have o8 := co 8 _ rfl; have o9 := co 9 _ rfl; have o10 := co 10 _ rfl; have o11 := co 11 _ rfl
  have f0 := fo 0; have f1 := fo 1; have f2 := fo 2; have f3 := fo 3; have f4 := fo 4; have f5 := fo 5; have f6 := fo 6; have f7 := fo 7; have f8 := fo 8; have f9 := fo 9; have f10 := fo 10; have f11 := fo 11
  have OW := Lib.hid own
  have CO := Lib.hid co
  clear own
  go_wp2
  clear o0 o1 o2 o3 o4 o5 o6 o7 o8 o9 o10 o11
  have co := ((((((((((((CO.out.put 0 (.int .i64 s.sz)).put 1 (.float .f32 s.st)).put 2 (.float .f32 s.li.1)).put 3 (.float .f32 s.li.2.1)).put 4 (.float .f32 s.li.2.2)).put 5 (.slice A1 s.sh.length c1)).put 6 (.int .i64 s.mir)).put 7 (.complex .f32 s.gr.1 s.gr.2)).put 8 (.float .f32 s.loss)).put 9 (.slice B1 s.bs.length d1)).put 10 (.int .i64 s.tk)).put 11 (.slice L1 s.log.length q1))
  have z0 := co 0 _ rfl; have z1 := co 1 _ rfl; have z2 := co 2 _ rfl; have z3 := co 3 _ rfl; have z4 := co 4 _ rfl; have z5 := co 5 _ rfl; have z6 := co 6 _ rfl; have z7 := co 7 _ rfl; have z8 := co 8 _ rfl; have z9 := co 9 _ rfl; have z10 := co 10 _ rfl; have z11 := co 11 _ rfl
  have le : w.heap.size ≤ w.heap.size + 1 := Nat.le_succ _
  exact bodyPost_ret (v := .tuple #[.agg #[.int .i64 s.sz, .float .f32 s.st, .float .f32 s.li.1, .float .f32 s.li.2.1, .float .f32 s.li.2.2, .slice A1 s.sh.length c1, .int .i64 s.mir, .complex .f32 s.gr.1 s.gr.2, .float .f32 s.loss, .slice B1 s.bs.length d1, .int .i64 s.tk, .slice L1 s.log.length q1], .bool true]) (by simp [results, Try.results17, go_sem, z0, z1, z2, z3, z4, z5, z6, z7, z8, z9, z10, z11]) rfl ⟨⟨A1, B1, L1, c1, d1, q1, rfl, OwnS.mono ((((((((((((OW.out.set _ lw0 _).set _ lw0 _).set _ lw0 _).set _ lw0 _).set _ lw0 _).set _ lw0 _).set _ lw0 _).set _ lw0 _).set _ lw0 _).set _ lw0 _).set _ lw0 _).set _ lw0 _) (by omega)⟩, (((((((((((hW.setCell le _).setCell le _).setCell le _).setCell le _).setCell le _).setCell le _).setCell le _).setCell le _).setCell le _).setCell le _).setCell le _).setCell le _⟩
end Go.Proofs.Ytoafldgngbaddaa
