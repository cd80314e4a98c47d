
/- happen: the program's, a shard is put in. -/
import Derived.Test.YthlphmojldbpkaaGreatM8
import Derived.Test.YthlphmojldbpkaaGreatM3
import Derived.Test.YthlphmojldbpkaaGreatM1
import Derived.Deep.RegionHeld3
import Derived.Deep.QuietTactic
import Derived.BigQuiet
namespace Go.Proofs.YthlphmojldbpkaaGreat
open Go.RowKit
attribute [local go_sem] run_store_float run_store_complex




set_option maxRecDepth 100000 in
set_option maxHeartbeats 4000000 in
theorem happen_add (s : Shw) (e : Ev) (ss : Sh) (zz : Pt) (he : e = .add ss zz) (A B L : Option Addr) (c d q base : Nat) (w : World) (hb : base ≤ w.heap.size) (hm : s.bs.length ≤ 1000) (hs : s.sh.length ≤ 1000) (hp : s.log.length ≤ 1000) (own : OwnS w base s A B L c d q) :
    Calls Tryz.prog 33 #[.agg #[.int .i64 s.sz, .float .f32 s.st, .float .f32 s.li.1, .float .f32 s.li.2.1, .float .f32 s.li.2.2, .slice A s.sh.length c, .int .i64 s.mir, .complex .f32 s.gr.1 s.gr.2, .float .f32 s.loss, .slice B s.bs.length d, .int .i64 s.tk, .slice L s.log.length q], .agg #[.int .i64 e.k, .int .i64 e.n, .complex .f32 e.z.1 e.z.2, .complex .f32 e.s.1.1 e.s.1.2, .complex .f32 e.s.2.1.1 e.s.2.1.2, .complex .f32 e.s.2.2.1.1 e.s.2.2.1.2, .float .f32 e.s.2.2.2.1.1, .float .f32 e.s.2.2.2.1.2.1, .float .f32 e.s.2.2.2.1.2.2, .float .f32 e.s.2.2.2.2, .float .f32 e.c.1, .float .f32 e.c.2.1, .float .f32 e.c.2.2]] w fun r w' => HapI s e base (OwnB s A B L c d q) w.heap.size r w' ∧ BelF base (OwnB s A B L c d q) w w' := by
  have k1 : (e.k == 1) = true := by rw [he]; rfl
  have k2 : (e.k == 2) = false := by rw [he]; rfl
  have k6 : (e.k == 6) = false := by rw [he]; rfl
  have ht : hap s e = some { s with sh := s.sh ++ [e.s], bs := s.bs ++ [((foldP s.mir e.z).1, (0, 0))] } := by rw [he]; rfl
  have kf := fun w => foldPoint_any s.mir e.z w
  generalize foldP s.mir e.z = rr at kf ht
  obtain ⟨⟨p1, p2⟩, ⟨gt, gf⟩, ok⟩ := rr
  simp only [foldV] at kf
  have KF := Lib.hid kf
  have HT := Lib.hid ht
  have OWN := Lib.hid own
  clear own he ht kf
  go_enter Tryz.func33, Tryz.ntmps33
  go_upto_region 1 with fail
  have h := hs_new e hb OWN.out #[.int .i64 s.sz, .float .f32 s.st, .float .f32 s.li.1, .float .f32 s.li.2.1, .float .f32 s.li.2.2, .slice A s.sh.length c, .int .i64 s.mir, .complex .f32 s.gr.1 s.gr.2, .float .f32 s.loss, .slice B s.bs.length d, .int .i64 s.tk, .slice L s.log.length q] #[.int .i64 0, .float .f32 0, .float .f32 0, .float .f32 0, .float .f32 0, .slice none 0 0, .int .i64 0, .complex .f32 0 0, .float .f32 0, .slice none 0 0, .int .i64 0, .slice none 0 0] 34 38 34 rfl rfl #[.int .i64 e.k, .int .i64 e.n, .complex .f32 e.z.1 e.z.2, .complex .f32 e.s.1.1 e.s.1.2, .complex .f32 e.s.2.1.1 e.s.2.1.2, .complex .f32 e.s.2.2.1.1 e.s.2.2.1.2, .float .f32 e.s.2.2.2.1.1, .float .f32 e.s.2.2.2.1.2.1, .float .f32 e.s.2.2.2.1.2.2, .float .f32 e.s.2.2.2.2, .float .f32 e.c.1, .float .f32 e.c.2.1, .float .f32 e.c.2.2] rfl
  obtain ⟨W, hWe⟩ : ∃ W, W = ((w.alloc (Obj.cells #[.int .i64 s.sz, .float .f32 s.st, .float .f32 s.li.1, .float .f32 s.li.2.1, .float .f32 s.li.2.2, .slice A s.sh.length c, .int .i64 s.mir, .complex .f32 s.gr.1 s.gr.2, .float .f32 s.loss, .slice B s.bs.length d, .int .i64 s.tk, .slice L s.log.length q] 34)).alloc (Obj.cells #[.int .i64 e.k, .int .i64 e.n, .complex .f32 e.z.1 e.z.2, .complex .f32 e.s.1.1 e.s.1.2, .complex .f32 e.s.2.1.1 e.s.2.1.2, .complex .f32 e.s.2.2.1.1 e.s.2.2.1.2, .float .f32 e.s.2.2.2.1.1, .float .f32 e.s.2.2.2.1.2.1, .float .f32 e.s.2.2.2.1.2.2, .float .f32 e.s.2.2.2.2, .float .f32 e.c.1, .float .f32 e.c.2.1, .float .f32 e.c.2.2] 38)).alloc (Obj.cells #[.int .i64 0, .float .f32 0, .float .f32 0, .float .f32 0, .float .f32 0, .slice none 0 0, .int .i64 0, .complex .f32 0 0, .float .f32 0, .slice none 0 0, .int .i64 0, .slice none 0 0] 34) := ⟨_, rfl⟩
  rw [← hWe] at h
  rw [← hWe]
  clear hWe hb OWN
  have lx := h.lt
  have a0 := h.cx 0 _ rfl; have a1 := h.cx 1 _ rfl; have a2 := h.cx 2 _ rfl; have a3 := h.cx 3 _ rfl; have a4 := h.cx 4 _ rfl; have a5 := h.cx 5 _ rfl; have a6 := h.cx 6 _ rfl; have a7 := h.cx 7 _ rfl; have a8 := h.cx 8 _ rfl; have a9 := h.cx 9 _ rfl; have a10 := h.cx 10 _ rfl; have a11 := h.cx 11 _ rfl
  have y0 := h.cy 0 _ rfl; have y1 := h.cy 1 _ rfl; have y2 := h.cy 2 _ rfl; have y3 := h.cy 3 _ rfl; have y4 := h.cy 4 _ rfl; have y5 := h.cy 5 _ rfl; have y6 := h.cy 6 _ rfl; have y7 := h.cy 7 _ rfl; have y8 := h.cy 8 _ rfl; have y9 := h.cy 9 _ rfl; have y10 := h.cy 10 _ rfl; have y11 := h.cy 11 _ rfl; have y12 := h.cy 12 _ rfl
  go_upto_region 2 with fail
  go_quiet (fail)
  go_upto_region 6 with fail
  obtain ⟨V, hV⟩ : ∃ V, V = W.drewN nq := ⟨_, rfl⟩
  replace h := h.drew_ nq
  rw [← hV] at h
  rw [← hV]
  have lx := h.lt
  clear a0 a1 a2 a3 a4 a5 a6 a7 a8 a9 a10 a11 y0 y1 y2 y3 y4 y5 y6 y7 y8 y9 y10 y11 y12 hV
  have a6 := h.cx 6 _ rfl
  have y2 := h.cy 2 _ rfl
  have lx0 : w.heap.size < V.heap.size := by omega
  have lx1 : w.heap.size + 1 < V.heap.size := by omega
  go_cut [7] (fun v7 wx => v7 = .complex .f32 p1 p2 ∧ Below V.heap.size V wx)
  case first =>
    go_region_held3 (fun w' => (∀ b o, b < V.heap.size → w'.cell? ⟨b, o, none⟩ = V.cell? ⟨b, o, none⟩) ∧ Below V.heap.size V w') (first | assumption | exact startS _ | exact startSM _ _ | exact stepS (by assumption) (by assumption) | exact ofBel (by (repeat (first | with_reducible assumption | exact Below.refl _ _ | (refine Below.setCell ?_ (by first | exact Nat.le_refl _ | (simp; done) | omega | (simp; omega)) _) | (refine below_drewN ?_ _) | (refine Below.drew ?_) | (refine Below.alloc ?_ (by first | exact Nat.le_refl _ | (simp; done) | omega | (simp; omega)) _) | (refine then_ ?_ (by with_reducible assumption)) | assumption | (refine then_ ?_ (by assumption)))))) (first | (go_at_call 16; (with_reducible refine (KF.out _).mono ?_); rintro e w5 ⟨rfl, hb5⟩; have hB5 : Below V.heap.size V w5 := (by (repeat (first | with_reducible assumption | exact Below.refl _ _ | (refine Below.setCell ?_ (by first | exact Nat.le_refl _ | (simp; done) | omega | (simp; omega)) _) | (refine below_drewN ?_ _) | (refine Below.drew ?_) | (refine Below.alloc ?_ (by first | exact Nat.le_refl _ | (simp; done) | omega | (simp; omega)) _) | (refine then_ ?_ (by with_reducible assumption)) | assumption | (refine then_ ?_ (by assumption))))); have z5 := hB5.size; try (refine keepCF_then (p := ⟨V.heap.size, 0, none⟩) (v := .int .i64 0) hb5 ?_ ?_ ?_; (focus (show (V.alloc _).cell? _ = _; simp [go_sem]; done)); (focus (show (V.alloc _).frozen? _ = _; simp [go_sem]; done)); intro kc0 kf0 lk0; dsimp only at lk0; refine keepCF_then (p := ⟨V.heap.size, 1, none⟩) (v := .bool false) hb5 ?_ ?_ ?_; (focus (show (V.alloc _).cell? _ = _; simp [go_sem]; done)); (focus (show (V.alloc _).frozen? _ = _; simp [go_sem]; done)); intro kc1 kf1 lk1)))
    all_goals
      go_wp2_with fail
      go_meet
      exact ⟨rfl, by (repeat (first | with_reducible assumption | exact Below.refl _ _ | (refine Below.setCell ?_ (by first | exact Nat.le_refl _ | (simp; done) | omega | (simp; omega)) _) | (refine below_drewN ?_ _) | (refine Below.drew ?_) | (refine Below.alloc ?_ (by first | exact Nat.le_refl _ | (simp; done) | omega | (simp; omega)) _) | (refine then_ ?_ (by with_reducible assumption)) | assumption | (refine then_ ?_ (by assumption))))⟩
  case rest =>
    obtain ⟨rfl, hwc⟩ := hcut
    replace h := h.below_ hwc
    have lx := h.lt
    clear hwc a6 y2 lx0 lx1
    obtain ⟨j0, hj, hy0, hy1, hy2⟩ := info_parts infoShd
    obtain ⟨m0, hm0, hq0, hq1, hq2⟩ := info_parts infoBd
    have bx : base ≤ w.heap.size := h.bx
    have OA : Hid (wc.ownsRow base 36 7 (.slice A s.sh.length c) s.sh.length (flat shC s.sh)) := Lib.hid h.own.1
    have HSA := Lib.hid h
    have a0 := h.cx 0 _ rfl; have a1 := h.cx 1 _ rfl; have a2 := h.cx 2 _ rfl; have a3 := h.cx 3 _ rfl; have a4 := h.cx 4 _ rfl; have a5 := h.cx 5 _ rfl; have a6 := h.cx 6 _ rfl; have a7 := h.cx 7 _ rfl; have a8 := h.cx 8 _ rfl; have a9 := h.cx 9 _ rfl; have a10 := h.cx 10 _ rfl; have a11 := h.cx 11 _ rfl
    have y0 := h.cy 0 _ rfl; have y1 := h.cy 1 _ rfl; have y2 := h.cy 2 _ rfl; have y3 := h.cy 3 _ rfl; have y4 := h.cy 4 _ rfl; have y5 := h.cy 5 _ rfl; have y6 := h.cy 6 _ rfl; have y7 := h.cy 7 _ rfl; have y8 := h.cy 8 _ rfl; have y9 := h.cy 9 _ rfl; have y10 := h.cy 10 _ rfl; have y11 := h.cy 11 _ rfl; have y12 := h.cy 12 _ rfl
    go_upto_region 8 with (at_builtin; refine wpList_append_own_at _ rfl _ _ 27 rfl base 36 j0 (.agg #[.complex .f32 0 0, .complex .f32 0 0, .complex .f32 0 0, .float .f32 0, .float .f32 0, .float .f32 0, .float .f32 0]) 7 40 Tryz.underlying27 hj hy0 hy1 hy2 rfl (by decide) _ _ _ rfl (OA.out.alloc _) ⟨wc.heap.size, 0, none⟩ 1 1 (shC e.s) rfl rfl ?c1 ?c2 ?c3 ?c4 ?c5 ?_; (case c1 => exact World.news_of_block (cs := #[.complex .f32 e.s.1.1 e.s.1.2, .complex .f32 e.s.2.1.1 e.s.2.1.2, .complex .f32 e.s.2.2.1.1 e.s.2.2.1.2, .float .f32 e.s.2.2.2.1.1, .float .f32 e.s.2.2.2.1.2.1, .float .f32 e.s.2.2.2.1.2.2, .float .f32 e.s.2.2.2.2]) (t := 36) (fr := (0, 0)) (heap_alloc_new wc _)); (case c2 => simp [shC, Value.oneCell']); (case c3 => unfold maxLen; omega); (case c4 => omega); (case c5 => simp only [World.size_alloc]; omega); intro v3 w3 hown3 hg3 hne3 hat3; obtain ⟨A3, c3, rfl, h3⟩ := HSA.out.appA _ e.s hown3 hg3 hat3; have H3 := Lib.hid h3; have a0 := h3.cx 0 _ rfl; have a1 := h3.cx 1 _ rfl; have a2 := h3.cx 2 _ rfl; have a3 := h3.cx 3 _ rfl; have a4 := h3.cx 4 _ rfl; have a5 := h3.cx 5 _ rfl; have a6 := h3.cx 6 _ rfl; have a7 := h3.cx 7 _ rfl; have a8 := h3.cx 8 _ rfl; have a9 := h3.cx 9 _ rfl; have a10 := h3.cx 10 _ rfl; have a11 := h3.cx 11 _ rfl; have f0 := h3.fx 0; have f1 := h3.fx 1; have f2 := h3.fx 2; have f3 := h3.fx 3; have f4 := h3.fx 4; have f5 := h3.fx 5; have f6 := h3.fx 6; have f7 := h3.fx 7; have f8 := h3.fx 8; have f9 := h3.fx 9; have f10 := h3.fx 10; have f11 := h3.fx 11; have lx := h3.lt; clear HSA hown3 hg3 hne3 hat3 h3 OA)
    clear h
    have h := H3.out
    clear a0 a1 a2 a3 a4 a5 a6 a7 a8 a9 a10 a11 y0 y1 y2 y3 y4 y5 y6 y7 y8 y9 y10 y11 y12 f0 f1 f2 f3 f4 f5 f6 f7 f8 f9 f10 f11 H3
    replace h := (h.put 5 (.slice A3 (s.sh.length + 1) c3)); obtain ⟨V3, hV3e⟩ : ∃ V3, V3 = (w3.setCell ⟨w.heap.size, 5, none⟩ (.slice A3 (s.sh.length + 1) c3)) := ⟨_, rfl⟩; rw [← hV3e] at h; rw [← hV3e]; clear hV3e; replace lx := h.lt
    have OB : Hid (V3.ownsRow base 54 2 (.slice B s.bs.length d) s.bs.length (flat bdC s.bs)) := Lib.hid h.own.2.1
    have HSB := Lib.hid h
    have a0 := h.cx 0 _ rfl; have a1 := h.cx 1 _ rfl; have a2 := h.cx 2 _ rfl; have a3 := h.cx 3 _ rfl; have a4 := h.cx 4 _ rfl; have a5 := h.cx 5 _ rfl; have a6 := h.cx 6 _ rfl; have a7 := h.cx 7 _ rfl; have a8 := h.cx 8 _ rfl; have a9 := h.cx 9 _ rfl; have a10 := h.cx 10 _ rfl; have a11 := h.cx 11 _ rfl
    go_upto_region 35 with (at_builtin; refine wpList_append_own_at _ rfl _ _ 29 rfl base 54 m0 (.agg #[.complex .f32 0 0, .complex .f32 0 0]) 2 16 Tryz.underlying29 hm0 hq0 hq1 hq2 rfl (by decide) _ _ _ rfl (OB.out.alloc _) ⟨V3.heap.size, 0, none⟩ 1 1 (bdC ((p1, p2), (0, 0))) rfl rfl ?c1 ?c2 ?c3 ?c4 ?c5 ?_; (case c1 => exact World.news_of_block (cs := #[.complex .f32 p1 p2, .complex .f32 0 0]) (t := 54) (fr := (0, 0)) (heap_alloc_new V3 _)); (case c2 => simp [bdC, Value.oneCell']); (case c3 => unfold maxLen; omega); (case c4 => omega); (case c5 => simp only [World.size_alloc]; omega); intro v3 w4 hown3 hg3 hne3 hat3; obtain ⟨B3, d3, rfl, h3⟩ := HSB.out.appB _ ((p1, p2), (0, 0)) hown3 hg3 hat3; have H3 := Lib.hid h3; have a0 := h3.cx 0 _ rfl; have a1 := h3.cx 1 _ rfl; have a2 := h3.cx 2 _ rfl; have a3 := h3.cx 3 _ rfl; have a4 := h3.cx 4 _ rfl; have a5 := h3.cx 5 _ rfl; have a6 := h3.cx 6 _ rfl; have a7 := h3.cx 7 _ rfl; have a8 := h3.cx 8 _ rfl; have a9 := h3.cx 9 _ rfl; have a10 := h3.cx 10 _ rfl; have a11 := h3.cx 11 _ rfl; have f0 := h3.fx 0; have f1 := h3.fx 1; have f2 := h3.fx 2; have f3 := h3.fx 3; have f4 := h3.fx 4; have f5 := h3.fx 5; have f6 := h3.fx 6; have f7 := h3.fx 7; have f8 := h3.fx 8; have f9 := h3.fx 9; have f10 := h3.fx 10; have f11 := h3.fx 11; have lx := h3.lt; clear HSB hown3 hg3 hne3 hat3 h3 OB)
    clear h
    have h := H3.out
    clear a0 a1 a2 a3 a4 a5 a6 a7 a8 a9 a10 a11 f0 f1 f2 f3 f4 f5 f6 f7 f8 f9 f10 f11 H3
    replace h := (h.put 9 (.slice B3 (s.bs.length + 1) d3)); obtain ⟨U, hUe⟩ : ∃ U, U = (w4.setCell ⟨w.heap.size, 9, none⟩ (.slice B3 (s.bs.length + 1) d3)) := ⟨_, rfl⟩; rw [← hUe] at h; rw [← hUe]; clear hUe; replace lx := h.lt
    obtain ⟨i0, hi, hz0, hz1, hz2⟩ := info_parts infoEv
    have OL : Hid (U.ownsRow base 38 13 (.slice L s.log.length q) s.log.length (flat evC s.log)) := Lib.hid h.own.2.2.1
    have HSL := Lib.hid h
    have a0 := h.cx 0 _ rfl; have a1 := h.cx 1 _ rfl; have a2 := h.cx 2 _ rfl; have a3 := h.cx 3 _ rfl; have a4 := h.cx 4 _ rfl; have a5 := h.cx 5 _ rfl; have a6 := h.cx 6 _ rfl; have a7 := h.cx 7 _ rfl; have a8 := h.cx 8 _ rfl; have a9 := h.cx 9 _ rfl; have a10 := h.cx 10 _ rfl; have a11 := h.cx 11 _ rfl
    have y0 := h.cy 0 _ rfl; have y1 := h.cy 1 _ rfl; have y2 := h.cy 2 _ rfl; have y3 := h.cy 3 _ rfl; have y4 := h.cy 4 _ rfl; have y5 := h.cy 5 _ rfl; have y6 := h.cy 6 _ rfl; have y7 := h.cy 7 _ rfl; have y8 := h.cy 8 _ rfl; have y9 := h.cy 9 _ rfl; have y10 := h.cy 10 _ rfl; have y11 := h.cy 11 _ rfl; have y12 := h.cy 12 _ rfl
    have bx : base ≤ w.heap.size := h.bx
    go_wp2_with (at_builtin; refine wpList_append_own_at _ rfl _ _ 32 rfl base 38 i0 (.agg #[.int .i64 0, .int .i64 0, .complex .f32 0 0, .complex .f32 0 0, .complex .f32 0 0, .complex .f32 0 0, .float .f32 0, .float .f32 0, .float .f32 0, .float .f32 0, .float .f32 0, .float .f32 0, .float .f32 0]) 13 80 Tryz.underlying32 hi hz0 hz1 hz2 rfl (by decide) _ _ _ rfl (OL.out.alloc _) ⟨U.heap.size, 0, none⟩ 1 1 (evC e) rfl rfl ?c1 ?c2 ?c3 ?c4 ?c5 ?_; (case c1 => exact World.news_of_block (cs := #[.int .i64 e.k, .int .i64 e.n, .complex .f32 e.z.1 e.z.2, .complex .f32 e.s.1.1 e.s.1.2, .complex .f32 e.s.2.1.1 e.s.2.1.2, .complex .f32 e.s.2.2.1.1 e.s.2.2.1.2, .float .f32 e.s.2.2.2.1.1, .float .f32 e.s.2.2.2.1.2.1, .float .f32 e.s.2.2.2.1.2.2, .float .f32 e.s.2.2.2.2, .float .f32 e.c.1, .float .f32 e.c.2.1, .float .f32 e.c.2.2]) (t := 38) (fr := (0, 0)) (heap_alloc_new U _)); (case c2 => simp [evC, Value.oneCell']); (case c3 => unfold maxLen; omega); (case c4 => omega); (case c5 => simp only [World.size_alloc]; omega); intro v3 w3 hown3 hg3 hne3 hat3; obtain ⟨L3, q3, rfl, h3⟩ := HSL.out.appL _ e hown3 hg3 hat3; have H3 := Lib.hid h3; have a0 := h3.cx 0 _ rfl; have a1 := h3.cx 1 _ rfl; have a2 := h3.cx 2 _ rfl; have a3 := h3.cx 3 _ rfl; have a4 := h3.cx 4 _ rfl; have a5 := h3.cx 5 _ rfl; have a6 := h3.cx 6 _ rfl; have a7 := h3.cx 7 _ rfl; have a8 := h3.cx 8 _ rfl; have a9 := h3.cx 9 _ rfl; have a10 := h3.cx 10 _ rfl; have a11 := h3.cx 11 _ rfl; have f0 := h3.fx 0; have f1 := h3.fx 1; have f2 := h3.fx 2; have f3 := h3.fx 3; have f4 := h3.fx 4; have f5 := h3.fx 5; have f6 := h3.fx 6; have f7 := h3.fx 7; have f8 := h3.fx 8; have f9 := h3.fx 9; have f10 := h3.fx 10; have f11 := h3.fx 11; have o0 := h3.co 0 _ rfl; have o1 := h3.co 1 _ rfl; have o2 := h3.co 2 _ rfl; have o3 := h3.co 3 _ rfl; have o4 := h3.co 4 _ rfl; have o5 := h3.co 5 _ rfl; have o6 := h3.co 6 _ rfl; have o7 := h3.co 7 _ rfl; have o8 := h3.co 8 _ rfl; have o9 := h3.co 9 _ rfl; have o10 := h3.co 10 _ rfl; have o11 := h3.co 11 _ rfl; have fo : FA w3 (w.heap.size + 1 + 1) := h3.fo; have g0 := fo 0; have g1 := fo 1; have g2 := fo 2; have g3 := fo 3; have g4 := fo 4; have g5 := fo 5; have g6 := fo 6; have g7 := fo 7; have g8 := fo 8; have g9 := fo 9; have g10 := fo 10; have g11 := fo 11; have lx := h3.lt; clear HSL hown3 hg3 hne3 hat3 h3 fo)
    have hz := ((((((((((((H3.out.put 11 (.slice L3 (s.log.length + 1) q3)).puto 0 (.int .i64 (({ s with sh := s.sh ++ [e.s], bs := s.bs ++ [((p1, p2), (0, 0))] } : Shw)).sz)).puto 1 (.float .f32 (({ s with sh := s.sh ++ [e.s], bs := s.bs ++ [((p1, p2), (0, 0))] } : Shw)).st)).puto 2 (.float .f32 (({ s with sh := s.sh ++ [e.s], bs := s.bs ++ [((p1, p2), (0, 0))] } : Shw)).li.1)).puto 3 (.float .f32 (({ s with sh := s.sh ++ [e.s], bs := s.bs ++ [((p1, p2), (0, 0))] } : Shw)).li.2.1)).puto 4 (.float .f32 (({ s with sh := s.sh ++ [e.s], bs := s.bs ++ [((p1, p2), (0, 0))] } : Shw)).li.2.2)).puto 5 (.slice A3 (s.sh.length + 1) c3)).puto 6 (.int .i64 (({ s with sh := s.sh ++ [e.s], bs := s.bs ++ [((p1, p2), (0, 0))] } : Shw)).mir)).puto 7 (.complex .f32 (({ s with sh := s.sh ++ [e.s], bs := s.bs ++ [((p1, p2), (0, 0))] } : Shw)).gr.1 (({ s with sh := s.sh ++ [e.s], bs := s.bs ++ [((p1, p2), (0, 0))] } : Shw)).gr.2)).puto 8 (.float .f32 (({ s with sh := s.sh ++ [e.s], bs := s.bs ++ [((p1, p2), (0, 0))] } : Shw)).loss)).puto 9 (.slice B3 (s.bs.length + 1) d3)).puto 10 (.int .i64 (({ s with sh := s.sh ++ [e.s], bs := s.bs ++ [((p1, p2), (0, 0))] } : Shw)).tk)).puto 11 (.slice L3 (s.log.length + 1) q3)
    have co : CA _ (w.heap.size + 1 + 1) _ := hz.co
    have own := hz.own
    have bel := hz.bel
    have hin := And.intro hz.iA (And.intro hz.iB hz.iL)
    clear hz H3
    have z0 := co 0 _ rfl; have z1 := co 1 _ rfl; have z2 := co 2 _ rfl; have z3 := co 3 _ rfl; have z4 := co 4 _ rfl; have z5 := co 5 _ rfl; have z6 := co 6 _ rfl; have z7 := co 7 _ rfl; have z8 := co 8 _ rfl; have z9 := co 9 _ rfl; have z10 := co 10 _ rfl; have z11 := co 11 _ rfl
    refine bodyPost_ret (v := .tuple #[.agg #[.int .i64 (({ s with sh := s.sh ++ [e.s], bs := s.bs ++ [((p1, p2), (0, 0))] } : Shw)).sz, .float .f32 (({ s with sh := s.sh ++ [e.s], bs := s.bs ++ [((p1, p2), (0, 0))] } : Shw)).st, .float .f32 (({ s with sh := s.sh ++ [e.s], bs := s.bs ++ [((p1, p2), (0, 0))] } : Shw)).li.1, .float .f32 (({ s with sh := s.sh ++ [e.s], bs := s.bs ++ [((p1, p2), (0, 0))] } : Shw)).li.2.1, .float .f32 (({ s with sh := s.sh ++ [e.s], bs := s.bs ++ [((p1, p2), (0, 0))] } : Shw)).li.2.2, .slice A3 (s.sh.length + 1) c3, .int .i64 (({ s with sh := s.sh ++ [e.s], bs := s.bs ++ [((p1, p2), (0, 0))] } : Shw)).mir, .complex .f32 (({ s with sh := s.sh ++ [e.s], bs := s.bs ++ [((p1, p2), (0, 0))] } : Shw)).gr.1 (({ s with sh := s.sh ++ [e.s], bs := s.bs ++ [((p1, p2), (0, 0))] } : Shw)).gr.2, .float .f32 (({ s with sh := s.sh ++ [e.s], bs := s.bs ++ [((p1, p2), (0, 0))] } : Shw)).loss, .slice B3 (s.bs.length + 1) d3, .int .i64 (({ s with sh := s.sh ++ [e.s], bs := s.bs ++ [((p1, p2), (0, 0))] } : Shw)).tk, .slice L3 (s.log.length + 1) q3], .bool true]) (by simp [results, Tryz.results33, go_sem, z0, z1, z2, z3, z4, z5, z6, z7, z8, z9, z10, z11]) rfl ⟨hapI_yes (t := ({ s with sh := s.sh ++ [e.s], bs := s.bs ++ [((p1, p2), (0, 0))] } : Shw)) ?_ own hin (by simp), bel⟩
    exact HT.out
end Go.Proofs.YthlphmojldbpkaaGreat
