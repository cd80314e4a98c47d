
/- l6Wait: the specification's, ticks pass. -/
import Derived.Test.YthlphmojldbpkaaGreatM25
import Derived.Test.YthlphmojldbpkaaGreatM8
namespace Go.Proofs.YthlphmojldbpkaaGreat
open Go.RowKit
attribute [local go_sem] run_store_float run_store_complex

/-- the beads: as they came, or in a row of the call's own -/
def BdAt (w : World) (base : Nat) (B0 : Option Addr) (d0 : Nat) (bs0 : List Bd) (B : Option Addr) (d : Nat) (bs : List Bd) : Prop :=
  (B = B0 ∧ d = d0 ∧ bs = bs0) ∨ w.ownsRow base 54 2 (.slice B bs.length d) bs.length (flat bdC bs)
structure WS (W0 : World) (l o : List Value) (W : World) : Prop where
  cx : CA W W0.heap.size l
  fx : FA W W0.heap.size
  co : CA W (W0.heap.size + 1) o
  fo : FA W (W0.heap.size + 1)
  lt : W0.heap.size + 1 < W.heap.size
  bel : Below W0.heap.size W0 W
theorem ws_new {w : World} (l o : Array Value) (t1 t2 : TypeId) : WS w l.toList o.toList ((w.alloc (Obj.cells l t1)).alloc (Obj.cells o t2)) := by
  have z1 : (w.alloc (Obj.cells l t1)).heap.size = w.heap.size + 1 := by simp
  refine ⟨(CA.new w l t1).alloc _, (FA.new w l t1).alloc (by simp) _, ?_, ?_, by simp, by (repeat (first | with_reducible assumption | exact Below.refl _ _ | (refine Below.setCell ?_ (by first | exact Nat.le_refl _ | (simp; done) | omega | (simp; omega)) _) | (refine below_drewN ?_ _) | (refine Below.drew ?_) | (refine Below.alloc ?_ (by first | exact Nat.le_refl _ | (simp; done) | omega | (simp; omega)) _) | (refine then_ ?_ (by with_reducible assumption)) | assumption | (refine then_ ?_ (by assumption))))⟩
  · rw [← z1]; exact CA.new _ o t2
  · rw [← z1]; exact FA.new _ o t2
theorem WS.step {W0 W W' : World} {l o : List Value} (h : WS W0 l o W) (hb : Below W.heap.size W W') : WS W0 l o W' :=
  ⟨h.cx.keep hb, h.fx.keep hb (by have := h.lt; omega), h.co.keep hb, h.fo.keep hb h.lt, Nat.lt_of_lt_of_le h.lt hb.size, then_ h.bel hb⟩
theorem WS.put {W0 W : World} {l o : List Value} (h : WS W0 l o W) (i : Nat) (u : Value) : WS W0 (l.set i u) o (W.setCell ⟨W0.heap.size, i, none⟩ u) :=
  ⟨h.cx.put i u, h.fx.set _ _, h.co.other ⟨W0.heap.size, i, none⟩ u (by show ¬ W0.heap.size + 1 = W0.heap.size; omega), h.fo.set _ _, by have := h.lt; simp [World.setCell]; omega, h.bel.setCell (p := ⟨W0.heap.size, i, none⟩) (Nat.le_refl _) u⟩
theorem WS.puto {W0 W : World} {l o : List Value} (h : WS W0 l o W) (i : Nat) (u : Value) : WS W0 l (o.set i u) (W.setCell ⟨W0.heap.size + 1, i, none⟩ u) :=
  ⟨h.cx.other ⟨W0.heap.size + 1, i, none⟩ u (by show ¬ W0.heap.size = W0.heap.size + 1; omega), h.fx.set _ _, h.co.put i u, h.fo.set _ _, by have := h.lt; simp [World.setCell]; omega, h.bel.setCell (p := ⟨W0.heap.size + 1, i, none⟩) (by show W0.heap.size ≤ W0.heap.size + 1; omega) u⟩
theorem BdAt.set {w : World} {base : Nat} {B0 : Option Addr} {d0 : Nat} {bs0 : List Bd} {B : Option Addr} {d : Nat} {bs : List Bd} (h : BdAt w base B0 d0 bs0 B d bs) {p : Addr} (hp : p.block < base) (u : Value) : BdAt (w.setCell p u) base B0 d0 bs0 B d bs := by
  rcases h with h | h
  · exact .inl h
  · exact .inr (ownsRow_setCell_below h hp u)
theorem BdAt.step {w w' : World} {base : Nat} {B0 : Option Addr} {d0 : Nat} {bs0 : List Bd} {B : Option Addr} {d : Nat} {bs : List Bd} (h : BdAt w base B0 d0 bs0 B d bs) (hb : Below w.heap.size w w') : BdAt w' base B0 d0 bs0 B d bs := by
  rcases h with h | h
  · exact .inl h
  · exact .inr (owns_below h hb)
theorem BdAt.mono {w : World} {base base' : Nat} {B0 : Option Addr} {d0 : Nat} {bs0 : List Bd} {B : Option Addr} {d : Nat} {bs : List Bd} (h : BdAt w base B0 d0 bs0 B d bs) (hb : base' ≤ base) : BdAt w base' B0 d0 bs0 B d bs := by
  rcases h with h | h
  · exact .inl h
  · exact .inr (owns_mono h hb)
theorem BdAt.rd {W0 w : World} {base : Nat} {B0 : Option Addr} {d0 : Nat} {bs0 : List Bd} {B : Option Addr} {d : Nat} {bs : List Bd} (h : BdAt w base B0 d0 bs0 B d bs) (r : Rd bdC 2 W0 W0.heap.size B0 bs0.length bs0) (hb : Below W0.heap.size W0 w) : Rd bdC 2 w w.heap.size B bs.length bs := by
  rcases h with ⟨rfl, rfl, rfl⟩ | h
  · exact r.step hb
  · exact Rd.of_own bdC_len rfl h

/-- what l6Wait answers -/
def WaitI (s : Shw) (i : Nat) (A B L : Option Addr) (n c d p q : Nat) (base : Nat) (r : Ending) (w' : World) : Prop :=
  ∃ (k : Nat) (u : Shw) (B1 : Option Addr) (d1 : Nat), waitS s k = some u ∧ (∀ t, waitS s i = some t → t = u) ∧ r = .returned (.tuple #[.agg #[.int .i64 u.sz, .float .f32 u.st, .float .f32 u.li.1, .float .f32 u.li.2.1, .float .f32 u.li.2.2, .slice A n c, .int .i64 u.mir, .complex .f32 u.gr.1 u.gr.2, .float .f32 u.loss, .slice B1 u.bs.length d1, .int .i64 u.tk, .slice L p q], .bool (waitS s i).isSome]) ∧ BdAt w' base B d s.bs B1 d1 u.bs
theorem waitI_mk {s u : Shw} {i k : Nat} {A B L : Option Addr} {n c d p q base : Nat} {v : Value} {b : Bool} {w' : World} {B1 : Option Addr} {d1 : Nat} (hk : waitS s k = some u) (hu : ∀ t, waitS s i = some t → t = u) (hv : v = .tuple #[.agg #[.int .i64 u.sz, .float .f32 u.st, .float .f32 u.li.1, .float .f32 u.li.2.1, .float .f32 u.li.2.2, .slice A n c, .int .i64 u.mir, .complex .f32 u.gr.1 u.gr.2, .float .f32 u.loss, .slice B1 u.bs.length d1, .int .i64 u.tk, .slice L p q], .bool b]) (hb : b = (waitS s i).isSome) (h : BdAt w' base B d s.bs B1 d1 u.bs) :
    WaitI s i A B L n c d p q base (.returned v) w' := ⟨k, u, B1, d1, hk, hu, by rw [hv, hb], h⟩

set_option maxRecDepth 100000 in
set_option maxHeartbeats 4000000 in
theorem specWait_any (s : Shw) (i : Nat) (hi : i ≤ 1000) (hg : Good s) (ht : tumB s.mir s.gr s.loss s.bs = true) (t0 : 0 ≤ s.tk) (t1 : s.tk ≤ 1000) (A B L : Option Addr) (n c d p q : Nat) (w : World) (hm : s.bs.length ≤ 8) (rB : Rd bdC 2 w w.heap.size B s.bs.length s.bs) :
    Calls Tryz.prog 136 #[.agg #[.int .i64 s.sz, .float .f32 s.st, .float .f32 s.li.1, .float .f32 s.li.2.1, .float .f32 s.li.2.2, .slice A n c, .int .i64 s.mir, .complex .f32 s.gr.1 s.gr.2, .float .f32 s.loss, .slice B s.bs.length d, .int .i64 s.tk, .slice L p q], .int .i64 (i : Int)] w fun r w' => WaitI s i A B L n c d p q w.heap.size r w' ∧ Below w.heap.size w w' := by
  have GD := Lib.hid hg
  have TU := Lib.hid ht
  have MM := Lib.hid hm
  have T0 := Lib.hid t0
  have T1 := Lib.hid t1
  have RB := Lib.hid rB
  clear hg ht hm t0 t1 rB
  go_enter Tryz.func136, Tryz.ntmps136
  go_upto_region 1 with fail
  have h := ws_new (w := w) #[.int .i64 s.sz, .float .f32 s.st, .float .f32 s.li.1, .float .f32 s.li.2.1, .float .f32 s.li.2.2, .slice A n c, .int .i64 s.mir, .complex .f32 s.gr.1 s.gr.2, .float .f32 s.loss, .slice B s.bs.length d, .int .i64 s.tk, .slice L p q] #[.int .i64 0, .float .f32 0, .float .f32 0, .float .f32 0, .float .f32 0, .slice none 0 0, .int .i64 0, .complex .f32 0 0, .float .f32 0, .slice none 0 0, .int .i64 0, .slice none 0 0] 34 34
  obtain ⟨V, hVe⟩ : ∃ V, V = (w.alloc (Obj.cells #[.int .i64 s.sz, .float .f32 s.st, .float .f32 s.li.1, .float .f32 s.li.2.1, .float .f32 s.li.2.2, .slice A n c, .int .i64 s.mir, .complex .f32 s.gr.1 s.gr.2, .float .f32 s.loss, .slice B s.bs.length d, .int .i64 s.tk, .slice L p q] 34)).alloc (Obj.cells #[.int .i64 0, .float .f32 0, .float .f32 0, .float .f32 0, .float .f32 0, .slice none 0 0, .int .i64 0, .complex .f32 0 0, .float .f32 0, .slice none 0 0, .int .i64 0, .slice none 0 0] 34) := ⟨_, rfl⟩
  rw [← hVe] at h
  rw [← hVe]
  have HV := Lib.hid h
  clear hVe h
  go_wp2_with fail
  go_loopw [6] (fun j wr => ∃ (k : Nat) (u : Shw) (B1 : Option Addr) (d1 : Nat), k ≤ i ∧ j = .int .i64 k ∧ waitS s k = some u ∧ BdAt wr (w.heap.size + 1 + 1) B d s.bs B1 d1 u.bs ∧ WS w (shwL u A B1 L n c u.bs.length d1 p q) shw0 wr) (fun j _ => i - (intOf j).toNat)
  case atStart => exact ⟨0, s, B, d, Nat.zero_le _, rfl, rfl, .inl ⟨rfl, rfl, rfl⟩, HV.out⟩
  case round =>
    obtain ⟨k, u, B1, d1, hk, rfl, hu, hbd, h⟩ := hrel
    obtain ⟨gu, tu, e1, e2, e3, e4, e5, e6, e7, e8, e9, e10⟩ := waitS_inv GD.out TU.out hu
    have lx : w.heap.size < wr.heap.size := by have := h.lt; omega
    by_cases hlt : k < i
    · have hki : (k : Int) < (i : Int) := by omega
      have hk0 : (0 : Int) ≤ (k : Int) := by omega
      have KS := Lib.hid (fun w h => specStep_any u.mir u.gr u.loss B1 u.bs.length d1 u.bs w (by have := MM.out; omega) tu h)
      have hwt : IntKind.i64.wrap (u.tk + 1) = u.tk + 1 := by have := T0.out; have := T1.out; rw [IntKind.wrap_i64] <;> omega
      have HU := Lib.hid hu
      have E9 := Lib.hid e9
      clear hu e1 e2 e3 e4 e5 e6 e7 e8 e9 e10 gu tu
      have a0 := h.cx 0 _ rfl; have a1 := h.cx 1 _ rfl; have a2 := h.cx 2 _ rfl; have a3 := h.cx 3 _ rfl; have a4 := h.cx 4 _ rfl; have a5 := h.cx 5 _ rfl; have a6 := h.cx 6 _ rfl; have a7 := h.cx 7 _ rfl; have a8 := h.cx 8 _ rfl; have a9 := h.cx 9 _ rfl; have a10 := h.cx 10 _ rfl; have a11 := h.cx 11 _ rfl
      have R := Lib.hid (hbd.rd RB.out h.bel)
      go_wp2_with fail
      (with_reducible refine (KS.out _ R.out).mono ?_)
      rintro r w5 ⟨hp5, hb⟩
      clear a0 a1 a2 a3 a4 a5 a6 a7 a8 a9 a10 a11
      cases hgo : allGo u.gr u.bs
      · obtain ⟨B5, d5, rfl, _⟩ := hp5.2 hgo
        have NO := Lib.hid (waitS_no HU.out hgo hlt)
        have BD := Lib.hid (hbd.step hb)
        replace h := h.step hb
        clear hp5 KS R hgo hbd hb
        unfold tumV
        go_upto_region 5 with fail
        replace h := h.step (show Below w5.heap.size w5 (w5.alloc (Obj.cells #[.int .i64 u.mir, .complex .f32 u.gr.1 u.gr.2, .float .f32 u.loss, .slice B5 u.bs.length d5] 31)) by (repeat (first | with_reducible assumption | exact Below.refl _ _ | (refine Below.setCell ?_ (by first | exact Nat.le_refl _ | (simp; done) | omega | (simp; omega)) _) | (refine below_drewN ?_ _) | (refine Below.drew ?_) | (refine Below.alloc ?_ (by first | exact Nat.le_refl _ | (simp; done) | omega | (simp; omega)) _) | (refine then_ ?_ (by with_reducible assumption)) | assumption | (refine then_ ?_ (by assumption)))))
        have BD2 := Lib.hid (BD.out.step (show Below w5.heap.size w5 (w5.alloc (Obj.cells #[.int .i64 u.mir, .complex .f32 u.gr.1 u.gr.2, .float .f32 u.loss, .slice B5 u.bs.length d5] 31)) by (repeat (first | with_reducible assumption | exact Below.refl _ _ | (refine Below.setCell ?_ (by first | exact Nat.le_refl _ | (simp; done) | omega | (simp; omega)) _) | (refine below_drewN ?_ _) | (refine Below.drew ?_) | (refine Below.alloc ?_ (by first | exact Nat.le_refl _ | (simp; done) | omega | (simp; omega)) _) | (refine then_ ?_ (by with_reducible assumption)) | assumption | (refine then_ ?_ (by assumption))))))
        obtain ⟨U, hU⟩ : ∃ U, U = w5.alloc (Obj.cells #[.int .i64 u.mir, .complex .f32 u.gr.1 u.gr.2, .float .f32 u.loss, .slice B5 u.bs.length d5] 31) := ⟨_, rfl⟩
        rw [← hU] at h BD2
        rw [← hU]
        clear hU
        have a0 := h.cx 0 _ rfl; have a1 := h.cx 1 _ rfl; have a2 := h.cx 2 _ rfl; have a3 := h.cx 3 _ rfl; have a4 := h.cx 4 _ rfl; have a5 := h.cx 5 _ rfl; have a6 := h.cx 6 _ rfl; have a7 := h.cx 7 _ rfl; have a8 := h.cx 8 _ rfl; have a9 := h.cx 9 _ rfl; have a10 := h.cx 10 _ rfl; have a11 := h.cx 11 _ rfl
        have o0 := h.co 0 _ rfl; have o1 := h.co 1 _ rfl; have o2 := h.co 2 _ rfl; have o3 := h.co 3 _ rfl; have o4 := h.co 4 _ rfl; have o5 := h.co 5 _ rfl; have o6 := h.co 6 _ rfl; have o7 := h.co 7 _ rfl; have o8 := h.co 8 _ rfl; have o9 := h.co 9 _ rfl; have o10 := h.co 10 _ rfl; have o11 := h.co 11 _ rfl
        have g0 := h.fo 0; have g1 := h.fo 1; have g2 := h.fo 2; have g3 := h.fo 3; have g4 := h.fo 4; have g5 := h.fo 5; have g6 := h.fo 6; have g7 := h.fo 7; have g8 := h.fo 8; have g9 := h.fo 9; have g10 := h.fo 10; have g11 := h.fo 11
        have lx := h.lt
        have lx0 : w.heap.size < U.heap.size := by omega
        go_wp2
        have hz := ((((((((((((h.puto 0 (.int .i64 u.sz)).puto 1 (.float .f32 u.st)).puto 2 (.float .f32 u.li.1)).puto 3 (.float .f32 u.li.2.1)).puto 4 (.float .f32 u.li.2.2)).puto 5 (.slice A n c)).puto 6 (.int .i64 u.mir)).puto 7 (.complex .f32 u.gr.1 u.gr.2)).puto 8 (.float .f32 u.loss)).puto 9 (.slice B1 u.bs.length d1)).puto 10 (.int .i64 u.tk)).puto 11 (.slice L p q))
        have z0 := hz.co 0 _ rfl; have z1 := hz.co 1 _ rfl; have z2 := hz.co 2 _ rfl; have z3 := hz.co 3 _ rfl; have z4 := hz.co 4 _ rfl; have z5 := hz.co 5 _ rfl; have z6 := hz.co 6 _ rfl; have z7 := hz.co 7 _ rfl; have z8 := hz.co 8 _ rfl; have z9 := hz.co 9 _ rfl; have z10 := hz.co 10 _ rfl; have z11 := hz.co 11 _ rfl
        have lo : w.heap.size + 1 < w.heap.size + 1 + 1 := by omega
        refine bodyPost_ret (v := .tuple #[.agg #[.int .i64 u.sz, .float .f32 u.st, .float .f32 u.li.1, .float .f32 u.li.2.1, .float .f32 u.li.2.2, .slice A n c, .int .i64 u.mir, .complex .f32 u.gr.1 u.gr.2, .float .f32 u.loss, .slice B1 u.bs.length d1, .int .i64 u.tk, .slice L p q], .bool false]) (by simp [results, Tryz.results136, go_sem, z0, z1, z2, z3, z4, z5, z6, z7, z8, z9, z10, z11]) rfl ⟨waitI_mk HU.out (fun t ht => by rw [NO.out] at ht; cases ht) rfl (by rw [NO.out]; rfl) (BdAt.mono ((((((((((((BD2.out.set (p := ⟨_, _, none⟩) lo _).set (p := ⟨_, _, none⟩) lo _).set (p := ⟨_, _, none⟩) lo _).set (p := ⟨_, _, none⟩) lo _).set (p := ⟨_, _, none⟩) lo _).set (p := ⟨_, _, none⟩) lo _).set (p := ⟨_, _, none⟩) lo _).set (p := ⟨_, _, none⟩) lo _).set (p := ⟨_, _, none⟩) lo _).set (p := ⟨_, _, none⟩) lo _).set (p := ⟨_, _, none⟩) lo _).set (p := ⟨_, _, none⟩) lo _) (by omega)), hz.bel⟩
      · obtain ⟨B5, d5, rfl, oB⟩ := hp5.1 hgo
        have z5 := hb.size
        have hll : u.bs.length = (goL u.mir u.gr u.loss u.bs).length := by simp [goL]
        have HLL := Lib.hid hll
        have HGO := Lib.hid hgo
        have lt2 := h.lt
        rw [hll] at oB
        have BD := Lib.hid (show BdAt w5 (w.heap.size + 1 + 1) B d s.bs B5 d5 (goL u.mir u.gr u.loss u.bs) from .inr (owns_mono oB (by omega)))
        replace h := h.step hb
        clear hp5 KS R hbd hb oB hgo hll
        unfold tumV
        go_upto_region 7 with fail
        replace h := h.step (show Below w5.heap.size w5 (w5.alloc (Obj.cells #[.int .i64 u.mir, .complex .f32 u.gr.1 u.gr.2, .float .f32 u.loss, .slice B5 u.bs.length d5] 31)) by (repeat (first | with_reducible assumption | exact Below.refl _ _ | (refine Below.setCell ?_ (by first | exact Nat.le_refl _ | (simp; done) | omega | (simp; omega)) _) | (refine below_drewN ?_ _) | (refine Below.drew ?_) | (refine Below.alloc ?_ (by first | exact Nat.le_refl _ | (simp; done) | omega | (simp; omega)) _) | (refine then_ ?_ (by with_reducible assumption)) | assumption | (refine then_ ?_ (by assumption)))))
        have BD2 := Lib.hid (BD.out.step (show Below w5.heap.size w5 (w5.alloc (Obj.cells #[.int .i64 u.mir, .complex .f32 u.gr.1 u.gr.2, .float .f32 u.loss, .slice B5 u.bs.length d5] 31)) by (repeat (first | with_reducible assumption | exact Below.refl _ _ | (refine Below.setCell ?_ (by first | exact Nat.le_refl _ | (simp; done) | omega | (simp; omega)) _) | (refine below_drewN ?_ _) | (refine Below.drew ?_) | (refine Below.alloc ?_ (by first | exact Nat.le_refl _ | (simp; done) | omega | (simp; omega)) _) | (refine then_ ?_ (by with_reducible assumption)) | assumption | (refine then_ ?_ (by assumption))))))
        have cb := CA.new w5 #[.int .i64 u.mir, .complex .f32 u.gr.1 u.gr.2, .float .f32 u.loss, .slice B5 u.bs.length d5] 31
        obtain ⟨U, hU⟩ : ∃ U, U = w5.alloc (Obj.cells #[.int .i64 u.mir, .complex .f32 u.gr.1 u.gr.2, .float .f32 u.loss, .slice B5 u.bs.length d5] 31) := ⟨_, rfl⟩
        rw [← hU] at h cb BD2
        rw [← hU]
        clear hU
        have a0 := h.cx 0 _ rfl; have a1 := h.cx 1 _ rfl; have a2 := h.cx 2 _ rfl; have a3 := h.cx 3 _ rfl; have a4 := h.cx 4 _ rfl; have a5 := h.cx 5 _ rfl; have a6 := h.cx 6 _ rfl; have a7 := h.cx 7 _ rfl; have a8 := h.cx 8 _ rfl; have a9 := h.cx 9 _ rfl; have a10 := h.cx 10 _ rfl; have a11 := h.cx 11 _ rfl
        have b0 := cb 0 _ rfl; have b1 := cb 1 _ rfl; have b2 := cb 2 _ rfl; have b3 := cb 3 _ rfl
        have f0 := h.fx 0; have f1 := h.fx 1; have f2 := h.fx 2; have f3 := h.fx 3; have f4 := h.fx 4; have f5 := h.fx 5; have f6 := h.fx 6; have f7 := h.fx 7; have f8 := h.fx 8; have f9 := h.fx 9; have f10 := h.fx 10; have f11 := h.fx 11
        have lx := h.lt
        have lx0 : w.heap.size < U.heap.size := by omega
        go_wp2_with fail
        go_roundw
        case rel =>
          have lo : w.heap.size < w.heap.size + 1 + 1 := by omega
          refine ⟨k + 1, tickS u, B5, d5, by omega, by go_num, waitS_succ HU.out HGO.out, ?_, ?_⟩
          · exact (((((BD2.out.set (p := ⟨_, _, none⟩) lo _).set (p := ⟨_, _, none⟩) lo _).set (p := ⟨_, _, none⟩) lo _).set (p := ⟨_, _, none⟩) lo _).set (p := ⟨_, _, none⟩) lo _)
          have hr := ((((h.put 6 (.int .i64 u.mir)).put 7 (.complex .f32 u.gr.1 u.gr.2)).put 8 (.float .f32 u.loss)).put 9 (.slice B5 u.bs.length d5)).put 10 (.int .i64 (u.tk + 1))
          have hl : shwL (tickS u) A B5 L n c (tickS u).bs.length d5 p q = (((((shwL u A B1 L n c u.bs.length d1 p q).set 6 (.int .i64 u.mir)).set 7 (.complex .f32 u.gr.1 u.gr.2)).set 8 (.float .f32 u.loss)).set 9 (.slice B5 u.bs.length d5)).set 10 (.int .i64 (u.tk + 1)) := by
            show shwL (tickS u) A B5 L n c (goL u.mir u.gr u.loss u.bs).length d5 p q = _
            rw [← HLL.out]
            rfl
          rw [hl]
          exact hr
        case measure => simp [intOf]; omega
    · obtain rfl : k = i := by omega
      have HT1 := Lib.hid (show ∀ t, waitS s k = some t → t = u from fun t ht => Option.some.inj (ht.symm.trans hu))
      have HT2 := Lib.hid (show (waitS s k).isSome = true by rw [hu]; rfl)
      have HU := Lib.hid hu
      have BD2 := Lib.hid hbd
      clear hu e1 e2 e3 e4 e5 e6 e7 e8 e9 e10 gu tu hbd
      obtain ⟨U, hU⟩ : ∃ U, U = wr := ⟨_, rfl⟩
      rw [← hU] at h lx BD2
      rw [← hU]
      clear hU
      have a0 := h.cx 0 _ rfl; have a1 := h.cx 1 _ rfl; have a2 := h.cx 2 _ rfl; have a3 := h.cx 3 _ rfl; have a4 := h.cx 4 _ rfl; have a5 := h.cx 5 _ rfl; have a6 := h.cx 6 _ rfl; have a7 := h.cx 7 _ rfl; have a8 := h.cx 8 _ rfl; have a9 := h.cx 9 _ rfl; have a10 := h.cx 10 _ rfl; have a11 := h.cx 11 _ rfl
      have o0 := h.co 0 _ rfl; have o1 := h.co 1 _ rfl; have o2 := h.co 2 _ rfl; have o3 := h.co 3 _ rfl; have o4 := h.co 4 _ rfl; have o5 := h.co 5 _ rfl; have o6 := h.co 6 _ rfl; have o7 := h.co 7 _ rfl; have o8 := h.co 8 _ rfl; have o9 := h.co 9 _ rfl; have o10 := h.co 10 _ rfl; have o11 := h.co 11 _ rfl
      have g0 := h.fo 0; have g1 := h.fo 1; have g2 := h.fo 2; have g3 := h.fo 3; have g4 := h.fo 4; have g5 := h.fo 5; have g6 := h.fo 6; have g7 := h.fo 7; have g8 := h.fo 8; have g9 := h.fo 9; have g10 := h.fo 10; have g11 := h.fo 11
      have lx1 := h.lt
      go_wp2
      have hz := ((((((((((((h.puto 0 (.int .i64 u.sz)).puto 1 (.float .f32 u.st)).puto 2 (.float .f32 u.li.1)).puto 3 (.float .f32 u.li.2.1)).puto 4 (.float .f32 u.li.2.2)).puto 5 (.slice A n c)).puto 6 (.int .i64 u.mir)).puto 7 (.complex .f32 u.gr.1 u.gr.2)).puto 8 (.float .f32 u.loss)).puto 9 (.slice B1 u.bs.length d1)).puto 10 (.int .i64 u.tk)).puto 11 (.slice L p q))
      have z0 := hz.co 0 _ rfl; have z1 := hz.co 1 _ rfl; have z2 := hz.co 2 _ rfl; have z3 := hz.co 3 _ rfl; have z4 := hz.co 4 _ rfl; have z5 := hz.co 5 _ rfl; have z6 := hz.co 6 _ rfl; have z7 := hz.co 7 _ rfl; have z8 := hz.co 8 _ rfl; have z9 := hz.co 9 _ rfl; have z10 := hz.co 10 _ rfl; have z11 := hz.co 11 _ rfl
      have lo : w.heap.size + 1 < w.heap.size + 1 + 1 := by omega
      refine bodyPost_ret (v := .tuple #[.agg #[.int .i64 u.sz, .float .f32 u.st, .float .f32 u.li.1, .float .f32 u.li.2.1, .float .f32 u.li.2.2, .slice A n c, .int .i64 u.mir, .complex .f32 u.gr.1 u.gr.2, .float .f32 u.loss, .slice B1 u.bs.length d1, .int .i64 u.tk, .slice L p q], .bool true]) ?r1 ?r2 ?r3
      case r2 => rfl
      case r1 => simp [results, Tryz.results136, go_sem, z0, z1, z2, z3, z4, z5, z6, z7, z8, z9, z10, z11]
      case r3 => exact ⟨waitI_mk HU.out HT1.out rfl HT2.out.symm (BdAt.mono ((((((((((((BD2.out.set (p := ⟨_, _, none⟩) lo _).set (p := ⟨_, _, none⟩) lo _).set (p := ⟨_, _, none⟩) lo _).set (p := ⟨_, _, none⟩) lo _).set (p := ⟨_, _, none⟩) lo _).set (p := ⟨_, _, none⟩) lo _).set (p := ⟨_, _, none⟩) lo _).set (p := ⟨_, _, none⟩) lo _).set (p := ⟨_, _, none⟩) lo _).set (p := ⟨_, _, none⟩) lo _).set (p := ⟨_, _, none⟩) lo _).set (p := ⟨_, _, none⟩) lo _) (by omega)), hz.bel⟩
end Go.Proofs.YthlphmojldbpkaaGreat
