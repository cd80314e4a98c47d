
/- DoEvent: the specification's, of good shows and events. -/
import Derived.Test.YthlphmojldbpkaaGreatDoI
import Derived.Test.YthlphmojldbpkaaGreatM27
import Derived.Test.YthlphmojldbpkaaGreatM29
namespace Go.Proofs.YthlphmojldbpkaaGreat
open Go.RowKit
attribute [local go_sem] run_store_float run_store_complex

theorem DS.keepB {W0 X W : World} {e : Ev} {l o : List Value} (h : DS W0 e l o X) (hb : Below X.heap.size X W) : DS W0 e l o W := h.step hb
/-- the log has grown by an event -/
theorem OwnS.appL {W W' : World} {base : Nat} {t : Shw} {A B L : Option Addr} {c d q : Nat} (h : OwnS W base t A B L c d q) (ob : Obj) (e : Ev) {v1 : Value} (hown : W'.ownsRow base 38 13 v1 (t.log.length + 1) (flat evC t.log ++ evC e)) (hg : (W.alloc ob).grownBy W' (Value.slice L t.log.length q).ownBlock)
    (hat : v1.ownBlock = (Value.slice L t.log.length q).ownBlock ∨ v1.ownBlock = some (W.alloc ob).heap.size) : ∃ L1 q1, v1 = .slice L1 (t.log.length + 1) q1 ∧ OwnS W' base (logged t e) A B L1 c d q1 ∧ ∀ g, g < W.heap.size → OffS t A B L c d q g → OffS (logged t e) A B L1 c d q1 g := by
  obtain ⟨L1, q1, rfl⟩ := owns_slice hown
  have e1 : (logged t e).log.length = t.log.length + 1 := by simp [logged]
  have e2 : flat evC t.log ++ evC e = flat evC (logged t e).log := by simp only [logged]; rw [flat_append, flat_cons, flat_nil, List.append_nil]
  have k := h.below (show Below W.heap.size W (W.alloc ob) by exact (Below.refl _ _).alloc (Nat.le_refl _) _)
  rw [e2, ← e1] at hown
  rw [← e1] at hat
  have z : (W.alloc ob).heap.size = W.heap.size + 1 := by simp
  refine ⟨L1, q1, rfl, ⟨owns_grown k.1 hg (fun g hg' => k.2.2.2.2.1.symm g hg'), owns_grown k.2.1 hg (fun g hg' => k.2.2.2.2.2.symm g hg'), hown, k.2.2.2.1, (apart_new hat k.2.2.2.2.1.symm (fun g e => (k.1.lt g e).2)).symm, (apart_new hat k.2.2.2.2.2.symm (fun g e => (k.2.1.lt g e).2)).symm⟩, fun g hg1 ho => ⟨ho.1, ho.2.1, off_new hat ho.2.2 (by omega)⟩⟩


set_option maxRecDepth 100000 in
set_option maxHeartbeats 40000000 in
theorem specDoEvent_any (s : Shw) (e : Ev) (A B L : Option Addr) (c d q : Nat) (w : World) (hg : Good s) (hk : okS s = true) (he : evG e = true) (hr : RdS w s A B L) :
    Calls Tryz.prog 62 #[.agg #[.int .i64 s.sz, .float .f32 s.st, .float .f32 s.li.1, .float .f32 s.li.2.1, .float .f32 s.li.2.2, .slice A s.sh.length c, .int .i64 s.mir, .complex .f32 s.gr.1 s.gr.2, .float .f32 s.loss, .slice B s.bs.length d, .int .i64 s.tk, .slice L s.log.length q], .agg #[.int .i64 e.k, .int .i64 e.n, .complex .f32 e.z.1 e.z.2, .complex .f32 e.s.1.1 e.s.1.2, .complex .f32 e.s.2.1.1 e.s.2.1.2, .complex .f32 e.s.2.2.1.1 e.s.2.2.1.2, .float .f32 e.s.2.2.2.1.1, .float .f32 e.s.2.2.2.1.2.1, .float .f32 e.s.2.2.2.1.2.2, .float .f32 e.s.2.2.2.2, .float .f32 e.c.1, .float .f32 e.c.2.1, .float .f32 e.c.2.2]] w fun r w' => DoI s e w.heap.size r w' ∧ Below w.heap.size w w' := by
  obtain ⟨p1, p2, p3, p4⟩ := okS_parts.1 hk
  have hl := hg.len
  have KI := Lib.hid (fun w (h : RdS w s A B L) => specIsShow_any s A B L s.sh.length c s.bs.length d s.log.length q w hg (by omega) (by omega) (by omega) h.1 h.2.1 h.2.2)
  have KE := Lib.hid (fun w => specIsEvent_any e w he)
  have KC := Lib.hid (fun w h => specCopyS_any s A B L c d q w (by omega) p1 (by omega) h)
  rw [hk] at KI
  have HR := Lib.hid hr
  have HG := Lib.hid hg
  have HK := Lib.hid hk
  have HE := Lib.hid he
  clear hg hk he p1 p2 p3 p4 hl hr
  go_enter Tryz.func62, Tryz.ntmps62
  go_upto_region 1 with fail
  have h := ds_new (w := w) e #[.int .i64 s.sz, .float .f32 s.st, .float .f32 s.li.1, .float .f32 s.li.2.1, .float .f32 s.li.2.2, .slice A s.sh.length c, .int .i64 s.mir, .complex .f32 s.gr.1 s.gr.2, .float .f32 s.loss, .slice B s.bs.length d, .int .i64 s.tk, .slice L s.log.length q] #[.int .i64 0, .float .f32 0, .float .f32 0, .float .f32 0, .float .f32 0, .slice none 0 0, .int .i64 0, .complex .f32 0 0, .float .f32 0, .slice none 0 0, .int .i64 0, .slice none 0 0] #[.int .i64 e.k, .int .i64 e.n, .complex .f32 e.z.1 e.z.2, .complex .f32 e.s.1.1 e.s.1.2, .complex .f32 e.s.2.1.1 e.s.2.1.2, .complex .f32 e.s.2.2.1.1 e.s.2.2.1.2, .float .f32 e.s.2.2.2.1.1, .float .f32 e.s.2.2.2.1.2.1, .float .f32 e.s.2.2.2.1.2.2, .float .f32 e.s.2.2.2.2, .float .f32 e.c.1, .float .f32 e.c.2.1, .float .f32 e.c.2.2] 34 38 34 rfl
  obtain ⟨V, hVe⟩ : ∃ V, V = ((w.alloc (Obj.cells #[.int .i64 s.sz, .float .f32 s.st, .float .f32 s.li.1, .float .f32 s.li.2.1, .float .f32 s.li.2.2, .slice A s.sh.length c, .int .i64 s.mir, .complex .f32 s.gr.1 s.gr.2, .float .f32 s.loss, .slice B s.bs.length d, .int .i64 s.tk, .slice L s.log.length q] 34)).alloc (Obj.cells #[.int .i64 e.k, .int .i64 e.n, .complex .f32 e.z.1 e.z.2, .complex .f32 e.s.1.1 e.s.1.2, .complex .f32 e.s.2.1.1 e.s.2.1.2, .complex .f32 e.s.2.2.1.1 e.s.2.2.1.2, .float .f32 e.s.2.2.2.1.1, .float .f32 e.s.2.2.2.1.2.1, .float .f32 e.s.2.2.2.1.2.2, .float .f32 e.s.2.2.2.2, .float .f32 e.c.1, .float .f32 e.c.2.1, .float .f32 e.c.2.2] 38)).alloc (Obj.cells #[.int .i64 0, .float .f32 0, .float .f32 0, .float .f32 0, .float .f32 0, .slice none 0 0, .int .i64 0, .complex .f32 0 0, .float .f32 0, .slice none 0 0, .int .i64 0, .slice none 0 0] 34) := ⟨_, rfl⟩
  rw [← hVe] at h
  rw [← hVe]
  clear hVe
  have a0 := h.cx 0 _ rfl; have a1 := h.cx 1 _ rfl; have a2 := h.cx 2 _ rfl; have a3 := h.cx 3 _ rfl; have a4 := h.cx 4 _ rfl; have a5 := h.cx 5 _ rfl; have a6 := h.cx 6 _ rfl; have a7 := h.cx 7 _ rfl; have a8 := h.cx 8 _ rfl; have a9 := h.cx 9 _ rfl; have a10 := h.cx 10 _ rfl; have a11 := h.cx 11 _ rfl
  have bl := h.bel
  go_wp2_with fail
  (with_reducible refine (KI.out _ (HR.out.step bl)).mono ?_)
  rintro r w1 ⟨rfl, hb1⟩
  replace h := h.step hb1
  clear a0 a1 a2 a3 a4 a5 a6 a7 a8 a9 a10 a11 hb1 bl
  have y0 := h.cy 0 _ rfl; have y1 := h.cy 1 _ rfl; have y2 := h.cy 2 _ rfl; have y3 := h.cy 3 _ rfl; have y4 := h.cy 4 _ rfl; have y5 := h.cy 5 _ rfl; have y6 := h.cy 6 _ rfl; have y7 := h.cy 7 _ rfl; have y8 := h.cy 8 _ rfl; have y9 := h.cy 9 _ rfl; have y10 := h.cy 10 _ rfl; have y11 := h.cy 11 _ rfl; have y12 := h.cy 12 _ rfl
  go_wp2_with fail
  (with_reducible refine (KE.out _).mono ?_)
  rintro r X ⟨rfl, hb2⟩
  replace h := h.step hb2
  clear y0 y1 y2 y3 y4 y5 y6 y7 y8 y9 y10 y11 y12 hb2 KE
  cases er : evR e
  · have DN := doE_out (s := s) er
    clear er
    have a0 := h.cx 0 _ rfl; have a1 := h.cx 1 _ rfl; have a2 := h.cx 2 _ rfl; have a3 := h.cx 3 _ rfl; have a4 := h.cx 4 _ rfl; have a5 := h.cx 5 _ rfl; have a6 := h.cx 6 _ rfl; have a7 := h.cx 7 _ rfl; have a8 := h.cx 8 _ rfl; have a9 := h.cx 9 _ rfl; have a10 := h.cx 10 _ rfl; have a11 := h.cx 11 _ rfl
    have lx : w.heap.size < X.heap.size := by have := h.lt; omega
    have lo : w.heap.size + 1 + 1 < X.heap.size := h.lt
    have bl := h.bel
    go_wp2_with fail
    (with_reducible refine (KC.out _ (HR.out.step bl)).mono ?_)
    rintro r w9 ⟨⟨A9, B9, L9, c9, d9, q9, rfl, own9⟩, hb9⟩
    have h9 := h.step hb9
    have OW9 := Lib.hid own9
    have lo9 : w.heap.size + 1 + 1 < w9.heap.size := h9.lt
    have H9 := Lib.hid h9
    have BL := Lib.hid bl.size
    have o0 := h9.co 0 _ rfl; have o1 := h9.co 1 _ rfl; have o2 := h9.co 2 _ rfl; have o3 := h9.co 3 _ rfl; have o4 := h9.co 4 _ rfl; have o5 := h9.co 5 _ rfl; have o6 := h9.co 6 _ rfl; have o7 := h9.co 7 _ rfl; have o8 := h9.co 8 _ rfl; have o9 := h9.co 9 _ rfl; have o10 := h9.co 10 _ rfl; have o11 := h9.co 11 _ rfl
    have f0 := h9.fo 0; have f1 := h9.fo 1; have f2 := h9.fo 2; have f3 := h9.fo 3; have f4 := h9.fo 4; have f5 := h9.fo 5; have f6 := h9.fo 6; have f7 := h9.fo 7; have f8 := h9.fo 8; have f9 := h9.fo 9; have f10 := h9.fo 10; have f11 := h9.fo 11
    clear a0 a1 a2 a3 a4 a5 a6 a7 a8 a9 a10 a11 own9 hb9 h9 bl
    go_wp2
    have hz := ((((((((((((H9.out.puto 0 (.int .i64 s.sz)).puto 1 (.float .f32 s.st)).puto 2 (.float .f32 s.li.1)).puto 3 (.float .f32 s.li.2.1)).puto 4 (.float .f32 s.li.2.2)).puto 5 (.slice A9 s.sh.length c9)).puto 6 (.int .i64 s.mir)).puto 7 (.complex .f32 s.gr.1 s.gr.2)).puto 8 (.float .f32 s.loss)).puto 9 (.slice B9 s.bs.length d9)).puto 10 (.int .i64 s.tk)).puto 11 (.slice L9 s.log.length q9))
    have z0 := hz.co 0 _ rfl; have z1 := hz.co 1 _ rfl; have z2 := hz.co 2 _ rfl; have z3 := hz.co 3 _ rfl; have z4 := hz.co 4 _ rfl; have z5 := hz.co 5 _ rfl; have z6 := hz.co 6 _ rfl; have z7 := hz.co 7 _ rfl; have z8 := hz.co 8 _ rfl; have z9 := hz.co 9 _ rfl; have z10 := hz.co 10 _ rfl; have z11 := hz.co 11 _ rfl
    refine bodyPost_ret (v := .tuple #[.agg #[.int .i64 s.sz, .float .f32 s.st, .float .f32 s.li.1, .float .f32 s.li.2.1, .float .f32 s.li.2.2, .slice A9 s.sh.length c9, .int .i64 s.mir, .complex .f32 s.gr.1 s.gr.2, .float .f32 s.loss, .slice B9 s.bs.length d9, .int .i64 s.tk, .slice L9 s.log.length q9], .bool false]) (by simp [results, Tryz.results62, go_sem, z0, z1, z2, z3, z4, z5, z6, z7, z8, z9, z10, z11]) rfl ⟨doI_mk (OwnS.mono ((((((((((((OW9.out.set _ lo _).set _ lo _).set _ lo _).set _ lo _).set _ lo _).set _ lo _).set _ lo _).set _ lo _).set _ lo _).set _ lo _).set _ lo _).set _ lo _) BL.out) (by rw [DN]; rfl) (by rw [DN]; rfl), hz.bel⟩
  · go_upto_region 3 with fail
    have KH := Lib.hid (fun A B L c d q base w hb own => sDo_any s e A B L c d q base w HG.out HK.out HE.out er hb own)
    have RX := Lib.hid (HR.out.step h.bel)
    have lx := h.lt
    have lX0 : w.heap.size < X.heap.size := by omega
    have lX1 : w.heap.size + 1 < X.heap.size := by omega
    have a0 := h.cx 0 _ rfl; have a1 := h.cx 1 _ rfl; have a2 := h.cx 2 _ rfl; have a3 := h.cx 3 _ rfl; have a4 := h.cx 4 _ rfl; have a5 := h.cx 5 _ rfl; have a6 := h.cx 6 _ rfl; have a7 := h.cx 7 _ rfl; have a8 := h.cx 8 _ rfl; have a9 := h.cx 9 _ rfl; have a10 := h.cx 10 _ rfl; have a11 := h.cx 11 _ rfl
    have y0 := h.cy 0 _ rfl; have y1 := h.cy 1 _ rfl; have y2 := h.cy 2 _ rfl; have y3 := h.cy 3 _ rfl; have y4 := h.cy 4 _ rfl; have y5 := h.cy 5 _ rfl; have y6 := h.cy 6 _ rfl; have y7 := h.cy 7 _ rfl; have y8 := h.cy 8 _ rfl; have y9 := h.cy 9 _ rfl; have y10 := h.cy 10 _ rfl; have y11 := h.cy 11 _ rfl; have y12 := h.cy 12 _ rfl
    have ER := Lib.hid er
    go_cut [6, 7] (fun v6 v7 wx => ∃ (g b5 : Nat) (t : Shw) (A7 B7 L7 : Option Addr) (c7 d7 q7 : Nat), v6 = .pointer (some ⟨g, 0, none⟩) ∧ v7 = .bool (hap s e).isSome ∧ X.heap.size ≤ g ∧ X.heap.size ≤ b5 ∧ CA wx g (shwL t A7 B7 L7 t.sh.length c7 t.bs.length d7 t.log.length q7) ∧ FA wx g ∧ OwnS wx b5 t A7 B7 L7 c7 d7 q7 ∧ OffS t A7 B7 L7 c7 d7 q7 g ∧ t.log.length = s.log.length ∧ (∀ u, hap s e = some u → t = u) ∧ Below X.heap.size X wx)
    case first =>
      go_region_held3 (fun w' => (∀ b o, b < X.heap.size → w'.cell? ⟨b, o, none⟩ = X.cell? ⟨b, o, none⟩) ∧ Below X.heap.size X w') (first | with_reducible assumption | with_reducible exact startS _ | with_reducible exact startSM _ _ | with_reducible exact stepS (by assumption) (by assumption) | with_reducible exact ofBel (by (repeat (first | with_reducible assumption | with_reducible exact Below.refl _ _ | with_reducible refine Below.setCell ?_ (by first | exact Nat.le_refl _ | (dsimp only; omega)) _ | with_reducible refine Below.alloc ?_ (by first | exact Nat.le_refl _ | omega) _ | with_reducible refine Below.drew ?_ | with_reducible refine below_drewN ?_ _)))) (first | (go_at_call 61; (with_reducible refine (KC.out _ (RX.out.step ?_)).mono ?_); (repeat (first | with_reducible assumption | exact Below.refl _ _ | (refine Below.setCell ?_ (by first | exact Nat.le_refl _ | (simp; done) | omega | (simp; omega)) _) | (refine below_drewN ?_ _) | (refine Below.drew ?_) | (refine Below.alloc ?_ (by first | exact Nat.le_refl _ | (simp; done) | omega | (simp; omega)) _) | (refine then_ ?_ (by with_reducible assumption)) | assumption | (refine then_ ?_ (by assumption)))); rintro r w5 ⟨⟨A5, B5, L5, c5, d5, q5, rfl, own5⟩, hb5⟩; have hB5 : Below X.heap.size X w5 := (by (repeat (first | with_reducible assumption | exact Below.refl _ _ | (refine Below.setCell ?_ (by first | exact Nat.le_refl _ | (simp; done) | omega | (simp; omega)) _) | (refine below_drewN ?_ _) | (refine Below.drew ?_) | (refine Below.alloc ?_ (by first | exact Nat.le_refl _ | (simp; done) | omega | (simp; omega)) _) | (refine then_ ?_ (by with_reducible assumption)) | assumption | (refine then_ ?_ (by assumption))))); have z5 := hB5.size; (first | (obtain ⟨b5, own5, hx5, hs5, cg, fg⟩ := clone_first own5 hb5) | (obtain ⟨b5, own5, hx5, hs5⟩ := clone_plain own5 hb5))) | (go_at_call 100; (first | ((with_reducible refine (KH.out A5 B5 L5 c5 d5 q5 b5 w5 hs5 own5).mono ?_); rintro r w7 ⟨hp7, bf7⟩; have hB7 : Below X.heap.size X w7 := hB5.trans (bf7.bel.mono (by omega)); try (have cg := cg.belB bf7.bel hx5; have fg := fg.belB bf7.bel hx5)) | ((with_reducible refine (KH.out A5 B5 L5 c5 d5 q5 b5 (w5.alloc (Obj.cells #[.int .i64 0, .float .f32 0, .float .f32 0, .float .f32 0, .float .f32 0, .slice none 0 0, .int .i64 0, .complex .f32 0 0, .float .f32 0, .slice none 0 0, .int .i64 0, .slice none 0 0] 34)) (by simp; omega) (own5.below (by (repeat (first | with_reducible assumption | exact Below.refl _ _ | (refine Below.setCell ?_ (by first | exact Nat.le_refl _ | (simp; done) | omega | (simp; omega)) _) | (refine below_drewN ?_ _) | (refine Below.drew ?_) | (refine Below.alloc ?_ (by first | exact Nat.le_refl _ | (simp; done) | omega | (simp; omega)) _) | (refine then_ ?_ (by with_reducible assumption)) | assumption | (refine then_ ?_ (by assumption))))))).mono ?_); rintro r w7 ⟨hp7, bf7⟩; have hB7 : Below X.heap.size X w7 := (hB5.alloc hB5.size _).trans (bf7.bel.mono (by omega)); have no5 : ¬ OwnB s A5 B5 L5 c5 d5 q5 w5.heap.size := (fun k => by have := ownB_lt own5 k; omega); have cg := (CA.new w5 #[.int .i64 0, .float .f32 0, .float .f32 0, .float .f32 0, .float .f32 0, .slice none 0 0, .int .i64 0, .complex .f32 0 0, .float .f32 0, .slice none 0 0, .int .i64 0, .slice none 0 0] 34).far bf7 (by simp) no5; have fg := (FA.new w5 #[.int .i64 0, .float .f32 0, .float .f32 0, .float .f32 0, .float .f32 0, .slice none 0 0, .int .i64 0, .complex .f32 0 0, .float .f32 0, .slice none 0 0, .int .i64 0, .slice none 0 0] 34).far bf7 (by simp) no5)); have z7 := hB7.size; obtain ⟨t, A7, B7, L7, c7, d7, q7, rfl, own7, hin7, hl7, hu7⟩ := hp7; have OW7 := Lib.hid own7; have HL7 := Lib.hid hl7; have HU7 := Lib.hid hu7; clear own7 hl7 hu7; try (have k0 := cg 0 _ rfl; have k1 := cg 1 _ rfl; have k2 := cg 2 _ rfl; have k3 := cg 3 _ rfl; have k4 := cg 4 _ rfl; have k5 := cg 5 _ rfl; have k6 := cg 6 _ rfl; have k7 := cg 7 _ rfl; have k8 := cg 8 _ rfl; have k9 := cg 9 _ rfl; have k10 := cg 10 _ rfl; have k11 := cg 11 _ rfl; have j0 := fg 0; have j1 := fg 1; have j2 := fg 2; have j3 := fg 3; have j4 := fg 4; have j5 := fg 5; have j6 := fg 6; have j7 := fg 7; have j8 := fg 8; have j9 := fg 9; have j10 := fg 10; have j11 := fg 11; have lg := cg.lt)))
      all_goals
        go_wp2_with fail
        go_meet
        first
          | (refine ⟨w7.heap.size, b5, t, A7, B7, L7, c7, d7, q7, rfl, rfl, z7, (by omega), ?_, ?_, ?_, ?_, HL7.out, HU7.out, (by (repeat (first | with_reducible assumption | with_reducible exact Below.refl _ _ | with_reducible refine Below.setCell ?_ (by first | exact Nat.le_refl _ | (dsimp only; omega)) _ | with_reducible refine Below.alloc ?_ (by first | exact Nat.le_refl _ | omega) _ | with_reducible refine Below.drew ?_ | with_reducible refine below_drewN ?_ _)))⟩
             · exact CA.new w7 _ _
             · exact FA.new w7 _ _
             · exact OW7.out.below (by with_reducible exact Below.alloc (Below.refl _ _) (Nat.le_refl _) _)
             · exact OW7.out.offNew (Nat.le_refl _))
          | (have ho7 := OW7.out.offLt hx5
             refine ⟨X.heap.size, b5, t, A7, B7, L7, c7, d7, q7, rfl, rfl, Nat.le_refl _, (by omega), ?_, ?_, ?_, ho7, HL7.out, HU7.out, (by (repeat (first | with_reducible assumption | with_reducible exact Below.refl _ _ | with_reducible refine Below.setCell ?_ (by first | exact Nat.le_refl _ | (dsimp only; omega)) _ | with_reducible refine Below.alloc ?_ (by first | exact Nat.le_refl _ | omega) _ | with_reducible refine Below.drew ?_ | with_reducible refine below_drewN ?_ _)))⟩
             · exact ((((((((((((cg.put 0 _).put 1 _).put 2 _).put 3 _).put 4 _).put 5 _).put 6 _).put 7 _).put 8 _).put 9 _).put 10 _).put 11 _)
             · exact ((((((((((((fg.set _ _).set _ _).set _ _).set _ _).set _ _).set _ _).set _ _).set _ _).set _ _).set _ _).set _ _).set _ _)
             · exact ((((((((((((OW7.out.setO ho7 _ _).setO ho7 _ _).setO ho7 _ _).setO ho7 _ _).setO ho7 _ _).setO ho7 _ _).setO ho7 _ _).setO ho7 _ _).setO ho7 _ _).setO ho7 _ _).setO ho7 _ _).setO ho7 _ _))
          | (have lg5 : w5.heap.size < (w5.alloc (Obj.cells #[.int .i64 0, .float .f32 0, .float .f32 0, .float .f32 0, .float .f32 0, .slice none 0 0, .int .i64 0, .complex .f32 0 0, .float .f32 0, .slice none 0 0, .int .i64 0, .slice none 0 0] 34)).heap.size := by simp
             have ho7 := hin7.off no5 lg5
             refine ⟨w5.heap.size, b5, t, A7, B7, L7, c7, d7, q7, rfl, rfl, z5, (by omega), ?_, ?_, ?_, ho7, HL7.out, HU7.out, (by (repeat (first | with_reducible assumption | with_reducible exact Below.refl _ _ | with_reducible refine Below.setCell ?_ (by first | exact Nat.le_refl _ | (dsimp only; omega)) _ | with_reducible refine Below.alloc ?_ (by first | exact Nat.le_refl _ | omega) _ | with_reducible refine Below.drew ?_ | with_reducible refine below_drewN ?_ _)))⟩
             · exact ((((((((((((cg.put 0 _).put 1 _).put 2 _).put 3 _).put 4 _).put 5 _).put 6 _).put 7 _).put 8 _).put 9 _).put 10 _).put 11 _)
             · exact ((((((((((((fg.set _ _).set _ _).set _ _).set _ _).set _ _).set _ _).set _ _).set _ _).set _ _).set _ _).set _ _).set _ _)
             · exact ((((((((((((OW7.out.setO ho7 _ _).setO ho7 _ _).setO ho7 _ _).setO ho7 _ _).setO ho7 _ _).setO ho7 _ _).setO ho7 _ _).setO ho7 _ _).setO ho7 _ _).setO ho7 _ _).setO ho7 _ _).setO ho7 _ _))
    case rest =>
      obtain ⟨g, b5, t, A7, B7, L7, c7, d7, q7, rfl, rfl, hg, hb5, cg, fg, own7, off7, hl7, hu7, hwc⟩ := hcut
      have hX := Lib.hid h
      replace h := h.keepB hwc
      clear a0 a1 a2 a3 a4 a5 a6 a7 a8 a9 a10 a11 y0 y1 y2 y3 y4 y5 y6 y7 y8 y9 y10 y11 y12 RX KH
      have lg := cg.lt
      have lxc := h.lt
      have zc := hwc.size
      have k0 := cg 0 _ rfl; have k1 := cg 1 _ rfl; have k2 := cg 2 _ rfl; have k3 := cg 3 _ rfl; have k4 := cg 4 _ rfl; have k5 := cg 5 _ rfl; have k6 := cg 6 _ rfl; have k7 := cg 7 _ rfl; have k8 := cg 8 _ rfl; have k9 := cg 9 _ rfl; have k10 := cg 10 _ rfl; have k11 := cg 11 _ rfl
      have y0 := h.cy 0 _ rfl; have y1 := h.cy 1 _ rfl; have y2 := h.cy 2 _ rfl; have y3 := h.cy 3 _ rfl; have y4 := h.cy 4 _ rfl; have y5 := h.cy 5 _ rfl; have y6 := h.cy 6 _ rfl; have y7 := h.cy 7 _ rfl; have y8 := h.cy 8 _ rfl; have y9 := h.cy 9 _ rfl; have y10 := h.cy 10 _ rfl; have y11 := h.cy 11 _ rfl; have y12 := h.cy 12 _ rfl
      have lx1 : w.heap.size + 1 < wc.heap.size := by omega
      obtain ⟨i0, hi, hz0, hz1, hz2⟩ := info_parts infoEv
      have hp30 : t.log.length ≤ 30 := by obtain ⟨_, _, _, l4⟩ := okS_parts.1 HK.out; omega
      clear hl7
      have OWA := Lib.hid own7
      have OL : Hid (wc.ownsRow X.heap.size 38 13 (.slice L7 t.log.length q7) t.log.length (flat evC t.log)) := Lib.hid (owns_mono own7.2.2.1 hb5)
      have CG := Lib.hid cg
      have FG := Lib.hid fg
      have OFF := Lib.hid off7
      have HWC := Lib.hid hwc
      have HU7 := Lib.hid hu7
      have b5c : b5 ≤ wc.heap.size ∨ wc.heap.size < b5 := by omega
      clear cg fg off7 hwc hu7 own7 h
      go_upto_region 5 with (at_builtin; refine wpList_append_own_at _ rfl _ _ 32 rfl X.heap.size 38 i0 (.agg #[.int .i64 0, .int .i64 0, .complex .f32 0 0, .complex .f32 0 0, .complex .f32 0 0, .complex .f32 0 0, .float .f32 0, .float .f32 0, .float .f32 0, .float .f32 0, .float .f32 0, .float .f32 0, .float .f32 0]) 13 80 Tryz.underlying32 hi hz0 hz1 hz2 rfl (by decide) _ _ _ rfl (OL.out.alloc _) ⟨wc.heap.size, 0, none⟩ 1 1 (evC e) rfl rfl ?c1 ?c2 ?c3 ?c4 ?c5 ?_; (case c1 => exact World.news_of_block (cs := #[.int .i64 e.k, .int .i64 e.n, .complex .f32 e.z.1 e.z.2, .complex .f32 e.s.1.1 e.s.1.2, .complex .f32 e.s.2.1.1 e.s.2.1.2, .complex .f32 e.s.2.2.1.1 e.s.2.2.1.2, .float .f32 e.s.2.2.2.1.1, .float .f32 e.s.2.2.2.1.2.1, .float .f32 e.s.2.2.2.1.2.2, .float .f32 e.s.2.2.2.2, .float .f32 e.c.1, .float .f32 e.c.2.1, .float .f32 e.c.2.2]) (t := 38) (fr := (0, 0)) (heap_alloc_new wc _)); (case c2 => simp [evC, Value.oneCell']); (case c3 => unfold maxLen; omega); (case c4 => omega); (case c5 => simp only [World.size_alloc]; omega); intro v3 w3 hown3 hg3 hne3 hat3; obtain ⟨L8, q8, rfl, own8, off8⟩ := (OWA.out.mono hb5).appL _ e hown3 hg3 hat3; have O8 := Lib.hid own8; have F8 := Lib.hid (off8 g lg OFF.out); have nb : ∀ k, (Value.slice L7 t.log.length q7).ownBlock = some k → g ≠ k := (fun k hk ee => OFF.out.2.2 (by rw [hk, ee])); have cg := (CG.out.alloc _).grown hg3 nb; have fg := (FG.out.alloc lg _).grown (by simp; omega) hg3 nb; have hb3 : Below X.heap.size X w3 := (HWC.out.alloc zc _).grown hg3 (by simp; omega) (fun k hk => (by have := (OL.out.lt k hk).1; omega)); have HB3 := Lib.hid hb3; have CG3 := Lib.hid cg; have f11 := fg 11; have k0 := cg 0 _ rfl; have k1 := cg 1 _ rfl; have k2 := cg 2 _ rfl; have k3 := cg 3 _ rfl; have k4 := cg 4 _ rfl; have k5 := cg 5 _ rfl; have k6 := cg 6 _ rfl; have k7 := cg 7 _ rfl; have k8 := cg 8 _ rfl; have k9 := cg 9 _ rfl; have k10 := cg 10 _ rfl; have k11 := cg 11 _ rfl; have lg := cg.lt; clear OWA hown3 hg3 hne3 hat3 own8 off8 nb cg fg hb3)
      clear k0 k1 k2 k3 k4 k5 k6 k7 k8 k9 k10 k11 f11
      have cg := CG3.out.put 11 (.slice L8 (t.log.length + 1) q8)
      have hb3 := HB3.out.setCell (p := ⟨g, 11, none⟩) hg (.slice L8 (t.log.length + 1) q8)
      have own8 := O8.out.setO F8.out 11 (.slice L8 (t.log.length + 1) q8)
      obtain ⟨Y, hYe⟩ : ∃ Y, Y = w3.setCell ⟨g, 11, none⟩ (.slice L8 (t.log.length + 1) q8) := ⟨_, rfl⟩
      rw [← hYe] at cg hb3 own8
      rw [← hYe]
      clear hYe y0 y1 y2 y3 y4 y5 y6 y7 y8 y9 y10 y11 y12 lx1 lxc
      have h := hX.out.keepB hb3
      have lg := cg.lt
      cases hh : hap s e with
      | none =>
        have DN := doE_none ER.out hh
        clear cg own8 CG CG3 lg
        have a0 := h.cx 0 _ rfl; have a1 := h.cx 1 _ rfl; have a2 := h.cx 2 _ rfl; have a3 := h.cx 3 _ rfl; have a4 := h.cx 4 _ rfl; have a5 := h.cx 5 _ rfl; have a6 := h.cx 6 _ rfl; have a7 := h.cx 7 _ rfl; have a8 := h.cx 8 _ rfl; have a9 := h.cx 9 _ rfl; have a10 := h.cx 10 _ rfl; have a11 := h.cx 11 _ rfl
        have lx : w.heap.size < Y.heap.size := by have := h.lt; omega
        have lo : w.heap.size + 1 + 1 < Y.heap.size := h.lt
        have bl := h.bel
        go_wp2_with fail
        (with_reducible refine (KC.out _ (HR.out.step bl)).mono ?_)
        rintro r w9 ⟨⟨A9, B9, L9, c9, d9, q9, rfl, own9⟩, hb9⟩
        have h9 := h.step hb9
        have OW9 := Lib.hid own9
        have lo9 : w.heap.size + 1 + 1 < w9.heap.size := h9.lt
        have H9 := Lib.hid h9
        have BL := Lib.hid bl.size
        have o0 := h9.co 0 _ rfl; have o1 := h9.co 1 _ rfl; have o2 := h9.co 2 _ rfl; have o3 := h9.co 3 _ rfl; have o4 := h9.co 4 _ rfl; have o5 := h9.co 5 _ rfl; have o6 := h9.co 6 _ rfl; have o7 := h9.co 7 _ rfl; have o8 := h9.co 8 _ rfl; have o9 := h9.co 9 _ rfl; have o10 := h9.co 10 _ rfl; have o11 := h9.co 11 _ rfl
        have f0 := h9.fo 0; have f1 := h9.fo 1; have f2 := h9.fo 2; have f3 := h9.fo 3; have f4 := h9.fo 4; have f5 := h9.fo 5; have f6 := h9.fo 6; have f7 := h9.fo 7; have f8 := h9.fo 8; have f9 := h9.fo 9; have f10 := h9.fo 10; have f11 := h9.fo 11
        clear a0 a1 a2 a3 a4 a5 a6 a7 a8 a9 a10 a11 own9 hb9 h9 bl
        go_wp2
        have hz := ((((((((((((H9.out.puto 0 (.int .i64 s.sz)).puto 1 (.float .f32 s.st)).puto 2 (.float .f32 s.li.1)).puto 3 (.float .f32 s.li.2.1)).puto 4 (.float .f32 s.li.2.2)).puto 5 (.slice A9 s.sh.length c9)).puto 6 (.int .i64 s.mir)).puto 7 (.complex .f32 s.gr.1 s.gr.2)).puto 8 (.float .f32 s.loss)).puto 9 (.slice B9 s.bs.length d9)).puto 10 (.int .i64 s.tk)).puto 11 (.slice L9 s.log.length q9))
        have z0 := hz.co 0 _ rfl; have z1 := hz.co 1 _ rfl; have z2 := hz.co 2 _ rfl; have z3 := hz.co 3 _ rfl; have z4 := hz.co 4 _ rfl; have z5 := hz.co 5 _ rfl; have z6 := hz.co 6 _ rfl; have z7 := hz.co 7 _ rfl; have z8 := hz.co 8 _ rfl; have z9 := hz.co 9 _ rfl; have z10 := hz.co 10 _ rfl; have z11 := hz.co 11 _ rfl
        refine bodyPost_ret (v := .tuple #[.agg #[.int .i64 s.sz, .float .f32 s.st, .float .f32 s.li.1, .float .f32 s.li.2.1, .float .f32 s.li.2.2, .slice A9 s.sh.length c9, .int .i64 s.mir, .complex .f32 s.gr.1 s.gr.2, .float .f32 s.loss, .slice B9 s.bs.length d9, .int .i64 s.tk, .slice L9 s.log.length q9], .bool false]) (by simp [results, Tryz.results62, go_sem, z0, z1, z2, z3, z4, z5, z6, z7, z8, z9, z10, z11]) rfl ⟨doI_mk (OwnS.mono ((((((((((((OW9.out.set _ lo _).set _ lo _).set _ lo _).set _ lo _).set _ lo _).set _ lo _).set _ lo _).set _ lo _).set _ lo _).set _ lo _).set _ lo _).set _ lo _) BL.out) (by rw [DN]; rfl) (by rw [DN]; rfl), hz.bel⟩
      | some t0 =>
        have ht0 : t = t0 := HU7.out t0 hh
        subst ht0
        have GT := good_logged (good_hap HG.out HK.out HE.out ER.out hh) (by unfold evB; rw [HE.out, ER.out]; rfl)
        obtain ⟨l1, l2, l3, _, _⟩ := hap_len HG.out HK.out ER.out hh
        have HH := Lib.hid hh
        obtain ⟨u, hu⟩ : ∃ u, u = logged t e := ⟨_, rfl⟩
        have hlen : u.sh.length ≤ 12 ∧ u.bs.length ≤ 12 ∧ u.log.length ≤ 30 := by
          obtain ⟨_, _, _, l4⟩ := okS_parts.1 HK.out
          rw [hu]
          refine ⟨by show t.sh.length ≤ 12; omega, by show t.bs.length ≤ 12; omega, ?_⟩
          show (t.log ++ [e]).length ≤ 30
          rw [l3]; simp; omega
        have hlog : t.log.length + 1 = u.log.length := by rw [hu]; simp [logged]
        have hcells : (shwL t A7 B7 L7 t.sh.length c7 t.bs.length d7 t.log.length q7).set 11 (.slice L8 (t.log.length + 1) q8) = shwL u A7 B7 L8 u.sh.length c7 u.bs.length d7 u.log.length q8 := by rw [hlog, hu]; rfl
        rw [hcells] at cg
        have gt : Good u := by rw [hu]; exact GT
        rw [← hu] at own8
        have KI2 := Lib.hid (fun w (h : RdS w u A7 B7 L8) => specIsShow_any u A7 B7 L8 u.sh.length c7 u.bs.length d7 u.log.length q8 w gt hlen.1 hlen.2.1 hlen.2.2 h.1 h.2.1 h.2.2)
        have TT := Lib.hid hu
        have OW8 := Lib.hid own8
        have rd8 := Lib.hid own8.rd
        clear gt hlen hu own8 GT l1 l2 l3 hh hlog hcells CG CG3 HU7 O8 F8 OL FG OFF
        have k0 := cg 0 _ rfl; have k1 := cg 1 _ rfl; have k2 := cg 2 _ rfl; have k3 := cg 3 _ rfl; have k4 := cg 4 _ rfl; have k5 := cg 5 _ rfl; have k6 := cg 6 _ rfl; have k7 := cg 7 _ rfl; have k8 := cg 8 _ rfl; have k9 := cg 9 _ rfl; have k10 := cg 10 _ rfl; have k11 := cg 11 _ rfl
        go_wp2_with fail
        (with_reducible refine (KI2.out _ rd8.out).mono ?_)
        rintro r w8 ⟨rfl, hb8⟩
        replace h := h.step hb8
        replace cg := cg.keep hb8
        have own9 := Lib.hid (OW8.out.below hb8)
        clear k0 k1 k2 k3 k4 k5 k6 k7 k8 k9 k10 k11 lg rd8 OW8 hb8
        cases hk : okS u
        · have DN := doE_not ER.out HH.out (by rw [← TT.out]; exact hk)
          clear KI2 cg own9
          have a0 := h.cx 0 _ rfl; have a1 := h.cx 1 _ rfl; have a2 := h.cx 2 _ rfl; have a3 := h.cx 3 _ rfl; have a4 := h.cx 4 _ rfl; have a5 := h.cx 5 _ rfl; have a6 := h.cx 6 _ rfl; have a7 := h.cx 7 _ rfl; have a8 := h.cx 8 _ rfl; have a9 := h.cx 9 _ rfl; have a10 := h.cx 10 _ rfl; have a11 := h.cx 11 _ rfl
          have lx : w.heap.size < w8.heap.size := by have := h.lt; omega
          have lo : w.heap.size + 1 + 1 < w8.heap.size := h.lt
          have bl := h.bel
          go_wp2_with fail
          (with_reducible refine (KC.out _ (HR.out.step bl)).mono ?_)
          rintro r w9 ⟨⟨A9, B9, L9, c9, d9, q9, rfl, own9⟩, hb9⟩
          have h9 := h.step hb9
          have OW9 := Lib.hid own9
          have lo9 : w.heap.size + 1 + 1 < w9.heap.size := h9.lt
          have H9 := Lib.hid h9
          have BL := Lib.hid bl.size
          have o0 := h9.co 0 _ rfl; have o1 := h9.co 1 _ rfl; have o2 := h9.co 2 _ rfl; have o3 := h9.co 3 _ rfl; have o4 := h9.co 4 _ rfl; have o5 := h9.co 5 _ rfl; have o6 := h9.co 6 _ rfl; have o7 := h9.co 7 _ rfl; have o8 := h9.co 8 _ rfl; have o9 := h9.co 9 _ rfl; have o10 := h9.co 10 _ rfl; have o11 := h9.co 11 _ rfl
          have f0 := h9.fo 0; have f1 := h9.fo 1; have f2 := h9.fo 2; have f3 := h9.fo 3; have f4 := h9.fo 4; have f5 := h9.fo 5; have f6 := h9.fo 6; have f7 := h9.fo 7; have f8 := h9.fo 8; have f9 := h9.fo 9; have f10 := h9.fo 10; have f11 := h9.fo 11
          clear a0 a1 a2 a3 a4 a5 a6 a7 a8 a9 a10 a11 own9 hb9 h9 bl
          go_wp2
          have hz := ((((((((((((H9.out.puto 0 (.int .i64 s.sz)).puto 1 (.float .f32 s.st)).puto 2 (.float .f32 s.li.1)).puto 3 (.float .f32 s.li.2.1)).puto 4 (.float .f32 s.li.2.2)).puto 5 (.slice A9 s.sh.length c9)).puto 6 (.int .i64 s.mir)).puto 7 (.complex .f32 s.gr.1 s.gr.2)).puto 8 (.float .f32 s.loss)).puto 9 (.slice B9 s.bs.length d9)).puto 10 (.int .i64 s.tk)).puto 11 (.slice L9 s.log.length q9))
          have z0 := hz.co 0 _ rfl; have z1 := hz.co 1 _ rfl; have z2 := hz.co 2 _ rfl; have z3 := hz.co 3 _ rfl; have z4 := hz.co 4 _ rfl; have z5 := hz.co 5 _ rfl; have z6 := hz.co 6 _ rfl; have z7 := hz.co 7 _ rfl; have z8 := hz.co 8 _ rfl; have z9 := hz.co 9 _ rfl; have z10 := hz.co 10 _ rfl; have z11 := hz.co 11 _ rfl
          refine bodyPost_ret (v := .tuple #[.agg #[.int .i64 s.sz, .float .f32 s.st, .float .f32 s.li.1, .float .f32 s.li.2.1, .float .f32 s.li.2.2, .slice A9 s.sh.length c9, .int .i64 s.mir, .complex .f32 s.gr.1 s.gr.2, .float .f32 s.loss, .slice B9 s.bs.length d9, .int .i64 s.tk, .slice L9 s.log.length q9], .bool false]) (by simp [results, Tryz.results62, go_sem, z0, z1, z2, z3, z4, z5, z6, z7, z8, z9, z10, z11]) rfl ⟨doI_mk (OwnS.mono ((((((((((((OW9.out.set _ lo _).set _ lo _).set _ lo _).set _ lo _).set _ lo _).set _ lo _).set _ lo _).set _ lo _).set _ lo _).set _ lo _).set _ lo _).set _ lo _) BL.out) (by rw [DN]; rfl) (by rw [DN]; rfl), hz.bel⟩
        · have HY := Lib.hid (doE_yes ER.out HH.out (by rw [← TT.out]; exact hk))
          have k0 := cg 0 _ rfl; have k1 := cg 1 _ rfl; have k2 := cg 2 _ rfl; have k3 := cg 3 _ rfl; have k4 := cg 4 _ rfl; have k5 := cg 5 _ rfl; have k6 := cg 6 _ rfl; have k7 := cg 7 _ rfl; have k8 := cg 8 _ rfl; have k9 := cg 9 _ rfl; have k10 := cg 10 _ rfl; have k11 := cg 11 _ rfl
          have o0 := h.co 0 _ rfl; have o1 := h.co 1 _ rfl; have o2 := h.co 2 _ rfl; have o3 := h.co 3 _ rfl; have o4 := h.co 4 _ rfl; have o5 := h.co 5 _ rfl; have o6 := h.co 6 _ rfl; have o7 := h.co 7 _ rfl; have o8 := h.co 8 _ rfl; have o9 := h.co 9 _ rfl; have o10 := h.co 10 _ rfl; have o11 := h.co 11 _ rfl
          have f0 := h.fo 0; have f1 := h.fo 1; have f2 := h.fo 2; have f3 := h.fo 3; have f4 := h.fo 4; have f5 := h.fo 5; have f6 := h.fo 6; have f7 := h.fo 7; have f8 := h.fo 8; have f9 := h.fo 9; have f10 := h.fo 10; have f11 := h.fo 11
          have lg := cg.lt
          have lo9 := h.lt
          have lo : w.heap.size + 1 + 1 < X.heap.size := lx
          have ngo : ¬ g = w.heap.size + 1 + 1 := by omega
          have BL := Lib.hid (show w.heap.size ≤ X.heap.size by omega)
          go_wp2
          have hz := ((((((((((((h.puto 0 (.int .i64 u.sz)).puto 1 (.float .f32 u.st)).puto 2 (.float .f32 u.li.1)).puto 3 (.float .f32 u.li.2.1)).puto 4 (.float .f32 u.li.2.2)).puto 5 (.slice A7 u.sh.length c7)).puto 6 (.int .i64 u.mir)).puto 7 (.complex .f32 u.gr.1 u.gr.2)).puto 8 (.float .f32 u.loss)).puto 9 (.slice B7 u.bs.length d7)).puto 10 (.int .i64 u.tk)).puto 11 (.slice L8 u.log.length q8))
          have z0 := hz.co 0 _ rfl; have z1 := hz.co 1 _ rfl; have z2 := hz.co 2 _ rfl; have z3 := hz.co 3 _ rfl; have z4 := hz.co 4 _ rfl; have z5 := hz.co 5 _ rfl; have z6 := hz.co 6 _ rfl; have z7 := hz.co 7 _ rfl; have z8 := hz.co 8 _ rfl; have z9 := hz.co 9 _ rfl; have z10 := hz.co 10 _ rfl; have z11 := hz.co 11 _ rfl
          refine bodyPost_ret (v := .tuple #[.agg #[.int .i64 u.sz, .float .f32 u.st, .float .f32 u.li.1, .float .f32 u.li.2.1, .float .f32 u.li.2.2, .slice A7 u.sh.length c7, .int .i64 u.mir, .complex .f32 u.gr.1 u.gr.2, .float .f32 u.loss, .slice B7 u.bs.length d7, .int .i64 u.tk, .slice L8 u.log.length q8], .bool true]) (by simp [results, Tryz.results62, go_sem, z0, z1, z2, z3, z4, z5, z6, z7, z8, z9, z10, z11]) rfl ⟨doI_mk (OwnS.mono ((((((((((((own9.out.set _ lo _).set _ lo _).set _ lo _).set _ lo _).set _ lo _).set _ lo _).set _ lo _).set _ lo _).set _ lo _).set _ lo _).set _ lo _).set _ lo _) BL.out) (by rw [HY.out, TT.out]; rfl) (by rw [HY.out]; rfl), hz.bel⟩
end Go.Proofs.YthlphmojldbpkaaGreat
