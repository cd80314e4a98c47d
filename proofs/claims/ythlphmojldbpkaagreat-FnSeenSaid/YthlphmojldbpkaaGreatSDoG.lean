
/- l6Do: the specification's, light, gravity, no such bead. -/
import Derived.Test.YthlphmojldbpkaaGreatM16
import Derived.Test.YthlphmojldbpkaaGreatM1
import Derived.Deep.RegionHeld3
import Derived.Deep.RegionLaw
import Derived.Deep.QuietTactic
import Derived.BigQuiet
namespace Go.Proofs.YthlphmojldbpkaaGreat
open Go.RowKit
attribute [local go_sem] run_store_float run_store_complex



set_option maxRecDepth 100000 in
set_option maxHeartbeats 4000000 in
theorem sDo_light (s : Shw) (e : Ev) (cl : Col) (he : e = .light cl) (A B L : Option Addr) (c d q base : Nat) (w : World) (hb : base ≤ w.heap.size) (own : OwnS w base s A B L c d q) :
    Calls Tryz.prog 100 #[.agg #[.int .i64 s.sz, .float .f32 s.st, .float .f32 s.li.1, .float .f32 s.li.2.1, .float .f32 s.li.2.2, .slice A s.sh.length c, .int .i64 s.mir, .complex .f32 s.gr.1 s.gr.2, .float .f32 s.loss, .slice B s.bs.length d, .int .i64 s.tk, .slice L s.log.length q], .agg #[.int .i64 e.k, .int .i64 e.n, .complex .f32 e.z.1 e.z.2, .complex .f32 e.s.1.1 e.s.1.2, .complex .f32 e.s.2.1.1 e.s.2.1.2, .complex .f32 e.s.2.2.1.1 e.s.2.2.1.2, .float .f32 e.s.2.2.2.1.1, .float .f32 e.s.2.2.2.1.2.1, .float .f32 e.s.2.2.2.1.2.2, .float .f32 e.s.2.2.2.2, .float .f32 e.c.1, .float .f32 e.c.2.1, .float .f32 e.c.2.2]] w fun r w' => SHap s e base (OwnB s A B L c d q) w.heap.size r w' ∧ BelF base (OwnB s A B L c d q) w w' := by
  have k1 : (e.k == 1) = false := by rw [he]; rfl
  have k2 : (e.k == 2) = false := by rw [he]; rfl
  have k3 : (e.k == 3) = true := by rw [he]; rfl
  have HE := Lib.hid he
  clear he
  have OWN := Lib.hid own
  clear own
  go_enter Tryz.func100, Tryz.ntmps100
  go_upto_region 1 with fail
  have h := hs_new e hb OWN.out #[.int .i64 s.sz, .float .f32 s.st, .float .f32 s.li.1, .float .f32 s.li.2.1, .float .f32 s.li.2.2, .slice A s.sh.length c, .int .i64 s.mir, .complex .f32 s.gr.1 s.gr.2, .float .f32 s.loss, .slice B s.bs.length d, .int .i64 s.tk, .slice L s.log.length q] #[.int .i64 0, .float .f32 0, .float .f32 0, .float .f32 0, .float .f32 0, .slice none 0 0, .int .i64 0, .complex .f32 0 0, .float .f32 0, .slice none 0 0, .int .i64 0, .slice none 0 0] 34 38 34 rfl rfl #[.int .i64 e.k, .int .i64 e.n, .complex .f32 e.z.1 e.z.2, .complex .f32 e.s.1.1 e.s.1.2, .complex .f32 e.s.2.1.1 e.s.2.1.2, .complex .f32 e.s.2.2.1.1 e.s.2.2.1.2, .float .f32 e.s.2.2.2.1.1, .float .f32 e.s.2.2.2.1.2.1, .float .f32 e.s.2.2.2.1.2.2, .float .f32 e.s.2.2.2.2, .float .f32 e.c.1, .float .f32 e.c.2.1, .float .f32 e.c.2.2] rfl
  obtain ⟨W, hWe⟩ : ∃ W, W = ((w.alloc (Obj.cells #[.int .i64 s.sz, .float .f32 s.st, .float .f32 s.li.1, .float .f32 s.li.2.1, .float .f32 s.li.2.2, .slice A s.sh.length c, .int .i64 s.mir, .complex .f32 s.gr.1 s.gr.2, .float .f32 s.loss, .slice B s.bs.length d, .int .i64 s.tk, .slice L s.log.length q] 34)).alloc (Obj.cells #[.int .i64 e.k, .int .i64 e.n, .complex .f32 e.z.1 e.z.2, .complex .f32 e.s.1.1 e.s.1.2, .complex .f32 e.s.2.1.1 e.s.2.1.2, .complex .f32 e.s.2.2.1.1 e.s.2.2.1.2, .float .f32 e.s.2.2.2.1.1, .float .f32 e.s.2.2.2.1.2.1, .float .f32 e.s.2.2.2.1.2.2, .float .f32 e.s.2.2.2.2, .float .f32 e.c.1, .float .f32 e.c.2.1, .float .f32 e.c.2.2] 38)).alloc (Obj.cells #[.int .i64 0, .float .f32 0, .float .f32 0, .float .f32 0, .float .f32 0, .slice none 0 0, .int .i64 0, .complex .f32 0 0, .float .f32 0, .slice none 0 0, .int .i64 0, .slice none 0 0] 34) := ⟨_, rfl⟩
  rw [← hWe] at h
  rw [← hWe]
  clear hWe hb OWN
  have lx := h.lt
  have a0 := h.cx 0 _ rfl; have a1 := h.cx 1 _ rfl; have a2 := h.cx 2 _ rfl; have a3 := h.cx 3 _ rfl; have a4 := h.cx 4 _ rfl; have a5 := h.cx 5 _ rfl; have a6 := h.cx 6 _ rfl; have a7 := h.cx 7 _ rfl; have a8 := h.cx 8 _ rfl; have a9 := h.cx 9 _ rfl; have a10 := h.cx 10 _ rfl; have a11 := h.cx 11 _ rfl
  have y0 := h.cy 0 _ rfl; have y1 := h.cy 1 _ rfl; have y2 := h.cy 2 _ rfl; have y3 := h.cy 3 _ rfl; have y4 := h.cy 4 _ rfl; have y5 := h.cy 5 _ rfl; have y6 := h.cy 6 _ rfl; have y7 := h.cy 7 _ rfl; have y8 := h.cy 8 _ rfl; have y9 := h.cy 9 _ rfl; have y10 := h.cy 10 _ rfl; have y11 := h.cy 11 _ rfl; have y12 := h.cy 12 _ rfl
  have f0 := h.fx 0; have f1 := h.fx 1; have f2 := h.fx 2; have f3 := h.fx 3; have f4 := h.fx 4; have f5 := h.fx 5; have f6 := h.fx 6; have f7 := h.fx 7; have f8 := h.fx 8; have f9 := h.fx 9; have f10 := h.fx 10; have f11 := h.fx 11
  go_upto_region 23 with fail
  clear a0 a1 a2 a3 a4 a5 a6 a7 a8 a9 a10 a11 y0 y1 y2 y3 y4 y5 y6 y7 y8 y9 y10 y11 y12 f0 f1 f2 f3 f4 f5 f6 f7 f8 f9 f10 f11
  replace h := (((h.put 2 (.float .f32 e.c.1)).put 3 (.float .f32 e.c.2.1)).put 4 (.float .f32 e.c.2.2)); obtain ⟨U, hUe⟩ : ∃ U, U = (((W.setCell ⟨w.heap.size, 2, none⟩ (.float .f32 e.c.1)).setCell ⟨w.heap.size, 3, none⟩ (.float .f32 e.c.2.1)).setCell ⟨w.heap.size, 4, none⟩ (.float .f32 e.c.2.2)) := ⟨_, rfl⟩; rw [← hUe] at h; rw [← hUe]; clear hUe; replace lx := h.lt
  replace h := h.as { s with li := e.c } rfl rfl rfl
  have a0 := h.cx 0 _ rfl; have a1 := h.cx 1 _ rfl; have a2 := h.cx 2 _ rfl; have a3 := h.cx 3 _ rfl; have a4 := h.cx 4 _ rfl; have a5 := h.cx 5 _ rfl; have a6 := h.cx 6 _ rfl; have a7 := h.cx 7 _ rfl; have a8 := h.cx 8 _ rfl; have a9 := h.cx 9 _ rfl; have a10 := h.cx 10 _ rfl; have a11 := h.cx 11 _ rfl
  have o0 := h.co 0 _ rfl; have o1 := h.co 1 _ rfl; have o2 := h.co 2 _ rfl; have o3 := h.co 3 _ rfl; have o4 := h.co 4 _ rfl; have o5 := h.co 5 _ rfl; have o6 := h.co 6 _ rfl; have o7 := h.co 7 _ rfl; have o8 := h.co 8 _ rfl; have o9 := h.co 9 _ rfl; have o10 := h.co 10 _ rfl; have o11 := h.co 11 _ rfl
  have fo : FA _ (w.heap.size + 1 + 1) := h.fo
  have g0 := fo 0; have g1 := fo 1; have g2 := fo 2; have g3 := fo 3; have g4 := fo 4; have g5 := fo 5; have g6 := fo 6; have g7 := fo 7; have g8 := fo 8; have g9 := fo 9; have g10 := fo 10; have g11 := fo 11
  have lx := h.lt
  go_wp2
  have hz := ((((((((((((h.puto 0 (.int .i64 (({ s with li := e.c } : Shw)).sz)).puto 1 (.float .f32 (({ s with li := e.c } : Shw)).st)).puto 2 (.float .f32 (({ s with li := e.c } : Shw)).li.1)).puto 3 (.float .f32 (({ s with li := e.c } : Shw)).li.2.1)).puto 4 (.float .f32 (({ s with li := e.c } : Shw)).li.2.2)).puto 5 (.slice A s.sh.length c)).puto 6 (.int .i64 (({ s with li := e.c } : Shw)).mir)).puto 7 (.complex .f32 (({ s with li := e.c } : Shw)).gr.1 (({ s with li := e.c } : Shw)).gr.2)).puto 8 (.float .f32 (({ s with li := e.c } : Shw)).loss)).puto 9 (.slice B s.bs.length d)).puto 10 (.int .i64 (({ s with li := e.c } : Shw)).tk)).puto 11 (.slice L s.log.length q))
  have co : CA _ (w.heap.size + 1 + 1) _ := hz.co
  have own := hz.own
  have bel := hz.bel
  have hin := And.intro hz.iA (And.intro hz.iB hz.iL)
  clear hz
  have z0 := co 0 _ rfl; have z1 := co 1 _ rfl; have z2 := co 2 _ rfl; have z3 := co 3 _ rfl; have z4 := co 4 _ rfl; have z5 := co 5 _ rfl; have z6 := co 6 _ rfl; have z7 := co 7 _ rfl; have z8 := co 8 _ rfl; have z9 := co 9 _ rfl; have z10 := co 10 _ rfl; have z11 := co 11 _ rfl
  refine bodyPost_ret (v := .tuple #[.agg #[.int .i64 (({ s with li := e.c } : Shw)).sz, .float .f32 (({ s with li := e.c } : Shw)).st, .float .f32 (({ s with li := e.c } : Shw)).li.1, .float .f32 (({ s with li := e.c } : Shw)).li.2.1, .float .f32 (({ s with li := e.c } : Shw)).li.2.2, .slice A s.sh.length c, .int .i64 (({ s with li := e.c } : Shw)).mir, .complex .f32 (({ s with li := e.c } : Shw)).gr.1 (({ s with li := e.c } : Shw)).gr.2, .float .f32 (({ s with li := e.c } : Shw)).loss, .slice B s.bs.length d, .int .i64 (({ s with li := e.c } : Shw)).tk, .slice L s.log.length q], .bool true]) (by simp [results, Tryz.results100, go_sem, z0, z1, z2, z3, z4, z5, z6, z7, z8, z9, z10, z11]) rfl ⟨?_, bel⟩
  exact sHap_yes (t := { s with li := e.c }) own hin rfl rfl (by rw [HE.out]; rfl)
set_option maxRecDepth 100000 in
set_option maxHeartbeats 4000000 in
theorem sDo_gravity (s : Shw) (e : Ev) (zz : Pt) (he : e = .gravity zz) (A B L : Option Addr) (c d q base : Nat) (w : World) (hb : base ≤ w.heap.size) (own : OwnS w base s A B L c d q) :
    Calls Tryz.prog 100 #[.agg #[.int .i64 s.sz, .float .f32 s.st, .float .f32 s.li.1, .float .f32 s.li.2.1, .float .f32 s.li.2.2, .slice A s.sh.length c, .int .i64 s.mir, .complex .f32 s.gr.1 s.gr.2, .float .f32 s.loss, .slice B s.bs.length d, .int .i64 s.tk, .slice L s.log.length q], .agg #[.int .i64 e.k, .int .i64 e.n, .complex .f32 e.z.1 e.z.2, .complex .f32 e.s.1.1 e.s.1.2, .complex .f32 e.s.2.1.1 e.s.2.1.2, .complex .f32 e.s.2.2.1.1 e.s.2.2.1.2, .float .f32 e.s.2.2.2.1.1, .float .f32 e.s.2.2.2.1.2.1, .float .f32 e.s.2.2.2.1.2.2, .float .f32 e.s.2.2.2.2, .float .f32 e.c.1, .float .f32 e.c.2.1, .float .f32 e.c.2.2]] w fun r w' => SHap s e base (OwnB s A B L c d q) w.heap.size r w' ∧ BelF base (OwnB s A B L c d q) w w' := by
  have k1 : (e.k == 1) = false := by rw [he]; rfl
  have k2 : (e.k == 2) = false := by rw [he]; rfl
  have k3 : (e.k == 3) = false := by rw [he]; rfl
  have k4 : (e.k == 4) = false := by rw [he]; rfl
  have k5 : (e.k == 5) = true := by rw [he]; rfl
  have HE := Lib.hid he
  clear he
  have OWN := Lib.hid own
  clear own
  go_enter Tryz.func100, Tryz.ntmps100
  go_upto_region 1 with fail
  have h := hs_new e hb OWN.out #[.int .i64 s.sz, .float .f32 s.st, .float .f32 s.li.1, .float .f32 s.li.2.1, .float .f32 s.li.2.2, .slice A s.sh.length c, .int .i64 s.mir, .complex .f32 s.gr.1 s.gr.2, .float .f32 s.loss, .slice B s.bs.length d, .int .i64 s.tk, .slice L s.log.length q] #[.int .i64 0, .float .f32 0, .float .f32 0, .float .f32 0, .float .f32 0, .slice none 0 0, .int .i64 0, .complex .f32 0 0, .float .f32 0, .slice none 0 0, .int .i64 0, .slice none 0 0] 34 38 34 rfl rfl #[.int .i64 e.k, .int .i64 e.n, .complex .f32 e.z.1 e.z.2, .complex .f32 e.s.1.1 e.s.1.2, .complex .f32 e.s.2.1.1 e.s.2.1.2, .complex .f32 e.s.2.2.1.1 e.s.2.2.1.2, .float .f32 e.s.2.2.2.1.1, .float .f32 e.s.2.2.2.1.2.1, .float .f32 e.s.2.2.2.1.2.2, .float .f32 e.s.2.2.2.2, .float .f32 e.c.1, .float .f32 e.c.2.1, .float .f32 e.c.2.2] rfl
  obtain ⟨W, hWe⟩ : ∃ W, W = ((w.alloc (Obj.cells #[.int .i64 s.sz, .float .f32 s.st, .float .f32 s.li.1, .float .f32 s.li.2.1, .float .f32 s.li.2.2, .slice A s.sh.length c, .int .i64 s.mir, .complex .f32 s.gr.1 s.gr.2, .float .f32 s.loss, .slice B s.bs.length d, .int .i64 s.tk, .slice L s.log.length q] 34)).alloc (Obj.cells #[.int .i64 e.k, .int .i64 e.n, .complex .f32 e.z.1 e.z.2, .complex .f32 e.s.1.1 e.s.1.2, .complex .f32 e.s.2.1.1 e.s.2.1.2, .complex .f32 e.s.2.2.1.1 e.s.2.2.1.2, .float .f32 e.s.2.2.2.1.1, .float .f32 e.s.2.2.2.1.2.1, .float .f32 e.s.2.2.2.1.2.2, .float .f32 e.s.2.2.2.2, .float .f32 e.c.1, .float .f32 e.c.2.1, .float .f32 e.c.2.2] 38)).alloc (Obj.cells #[.int .i64 0, .float .f32 0, .float .f32 0, .float .f32 0, .float .f32 0, .slice none 0 0, .int .i64 0, .complex .f32 0 0, .float .f32 0, .slice none 0 0, .int .i64 0, .slice none 0 0] 34) := ⟨_, rfl⟩
  rw [← hWe] at h
  rw [← hWe]
  clear hWe hb OWN
  have lx := h.lt
  have a0 := h.cx 0 _ rfl; have a1 := h.cx 1 _ rfl; have a2 := h.cx 2 _ rfl; have a3 := h.cx 3 _ rfl; have a4 := h.cx 4 _ rfl; have a5 := h.cx 5 _ rfl; have a6 := h.cx 6 _ rfl; have a7 := h.cx 7 _ rfl; have a8 := h.cx 8 _ rfl; have a9 := h.cx 9 _ rfl; have a10 := h.cx 10 _ rfl; have a11 := h.cx 11 _ rfl
  have y0 := h.cy 0 _ rfl; have y1 := h.cy 1 _ rfl; have y2 := h.cy 2 _ rfl; have y3 := h.cy 3 _ rfl; have y4 := h.cy 4 _ rfl; have y5 := h.cy 5 _ rfl; have y6 := h.cy 6 _ rfl; have y7 := h.cy 7 _ rfl; have y8 := h.cy 8 _ rfl; have y9 := h.cy 9 _ rfl; have y10 := h.cy 10 _ rfl; have y11 := h.cy 11 _ rfl; have y12 := h.cy 12 _ rfl
  have f0 := h.fx 0; have f1 := h.fx 1; have f2 := h.fx 2; have f3 := h.fx 3; have f4 := h.fx 4; have f5 := h.fx 5; have f6 := h.fx 6; have f7 := h.fx 7; have f8 := h.fx 8; have f9 := h.fx 9; have f10 := h.fx 10; have f11 := h.fx 11
  go_upto_region 23 with fail
  clear a0 a1 a2 a3 a4 a5 a6 a7 a8 a9 a10 a11 y0 y1 y2 y3 y4 y5 y6 y7 y8 y9 y10 y11 y12 f0 f1 f2 f3 f4 f5 f6 f7 f8 f9 f10 f11
  replace h := (h.put 7 (.complex .f32 e.z.1 e.z.2)); obtain ⟨U, hUe⟩ : ∃ U, U = (W.setCell ⟨w.heap.size, 7, none⟩ (.complex .f32 e.z.1 e.z.2)) := ⟨_, rfl⟩; rw [← hUe] at h; rw [← hUe]; clear hUe; replace lx := h.lt
  replace h := h.as { s with gr := e.z } rfl rfl rfl
  have a0 := h.cx 0 _ rfl; have a1 := h.cx 1 _ rfl; have a2 := h.cx 2 _ rfl; have a3 := h.cx 3 _ rfl; have a4 := h.cx 4 _ rfl; have a5 := h.cx 5 _ rfl; have a6 := h.cx 6 _ rfl; have a7 := h.cx 7 _ rfl; have a8 := h.cx 8 _ rfl; have a9 := h.cx 9 _ rfl; have a10 := h.cx 10 _ rfl; have a11 := h.cx 11 _ rfl
  have o0 := h.co 0 _ rfl; have o1 := h.co 1 _ rfl; have o2 := h.co 2 _ rfl; have o3 := h.co 3 _ rfl; have o4 := h.co 4 _ rfl; have o5 := h.co 5 _ rfl; have o6 := h.co 6 _ rfl; have o7 := h.co 7 _ rfl; have o8 := h.co 8 _ rfl; have o9 := h.co 9 _ rfl; have o10 := h.co 10 _ rfl; have o11 := h.co 11 _ rfl
  have fo : FA _ (w.heap.size + 1 + 1) := h.fo
  have g0 := fo 0; have g1 := fo 1; have g2 := fo 2; have g3 := fo 3; have g4 := fo 4; have g5 := fo 5; have g6 := fo 6; have g7 := fo 7; have g8 := fo 8; have g9 := fo 9; have g10 := fo 10; have g11 := fo 11
  have lx := h.lt
  go_wp2
  have hz := ((((((((((((h.puto 0 (.int .i64 (({ s with gr := e.z } : Shw)).sz)).puto 1 (.float .f32 (({ s with gr := e.z } : Shw)).st)).puto 2 (.float .f32 (({ s with gr := e.z } : Shw)).li.1)).puto 3 (.float .f32 (({ s with gr := e.z } : Shw)).li.2.1)).puto 4 (.float .f32 (({ s with gr := e.z } : Shw)).li.2.2)).puto 5 (.slice A s.sh.length c)).puto 6 (.int .i64 (({ s with gr := e.z } : Shw)).mir)).puto 7 (.complex .f32 (({ s with gr := e.z } : Shw)).gr.1 (({ s with gr := e.z } : Shw)).gr.2)).puto 8 (.float .f32 (({ s with gr := e.z } : Shw)).loss)).puto 9 (.slice B s.bs.length d)).puto 10 (.int .i64 (({ s with gr := e.z } : Shw)).tk)).puto 11 (.slice L s.log.length q))
  have co : CA _ (w.heap.size + 1 + 1) _ := hz.co
  have own := hz.own
  have bel := hz.bel
  have hin := And.intro hz.iA (And.intro hz.iB hz.iL)
  clear hz
  have z0 := co 0 _ rfl; have z1 := co 1 _ rfl; have z2 := co 2 _ rfl; have z3 := co 3 _ rfl; have z4 := co 4 _ rfl; have z5 := co 5 _ rfl; have z6 := co 6 _ rfl; have z7 := co 7 _ rfl; have z8 := co 8 _ rfl; have z9 := co 9 _ rfl; have z10 := co 10 _ rfl; have z11 := co 11 _ rfl
  refine bodyPost_ret (v := .tuple #[.agg #[.int .i64 (({ s with gr := e.z } : Shw)).sz, .float .f32 (({ s with gr := e.z } : Shw)).st, .float .f32 (({ s with gr := e.z } : Shw)).li.1, .float .f32 (({ s with gr := e.z } : Shw)).li.2.1, .float .f32 (({ s with gr := e.z } : Shw)).li.2.2, .slice A s.sh.length c, .int .i64 (({ s with gr := e.z } : Shw)).mir, .complex .f32 (({ s with gr := e.z } : Shw)).gr.1 (({ s with gr := e.z } : Shw)).gr.2, .float .f32 (({ s with gr := e.z } : Shw)).loss, .slice B s.bs.length d, .int .i64 (({ s with gr := e.z } : Shw)).tk, .slice L s.log.length q], .bool true]) (by simp [results, Tryz.results100, go_sem, z0, z1, z2, z3, z4, z5, z6, z7, z8, z9, z10, z11]) rfl ⟨?_, bel⟩
  exact sHap_yes (t := { s with gr := e.z }) own hin rfl rfl (by rw [HE.out]; rfl)
set_option maxRecDepth 100000 in
set_option maxHeartbeats 4000000 in
theorem sDo_none2 (s : Shw) (e : Ev) (h2 : (e.k == 2) = true) (h1 : (e.k == 1) = false) (hn : ¬ e.n < (s.bs.length : Int)) (ht : hap s e = none) (A B L : Option Addr) (c d q base : Nat) (w : World) (hb : base ≤ w.heap.size) (own : OwnS w base s A B L c d q) :
    Calls Tryz.prog 100 #[.agg #[.int .i64 s.sz, .float .f32 s.st, .float .f32 s.li.1, .float .f32 s.li.2.1, .float .f32 s.li.2.2, .slice A s.sh.length c, .int .i64 s.mir, .complex .f32 s.gr.1 s.gr.2, .float .f32 s.loss, .slice B s.bs.length d, .int .i64 s.tk, .slice L s.log.length q], .agg #[.int .i64 e.k, .int .i64 e.n, .complex .f32 e.z.1 e.z.2, .complex .f32 e.s.1.1 e.s.1.2, .complex .f32 e.s.2.1.1 e.s.2.1.2, .complex .f32 e.s.2.2.1.1 e.s.2.2.1.2, .float .f32 e.s.2.2.2.1.1, .float .f32 e.s.2.2.2.1.2.1, .float .f32 e.s.2.2.2.1.2.2, .float .f32 e.s.2.2.2.2, .float .f32 e.c.1, .float .f32 e.c.2.1, .float .f32 e.c.2.2]] w fun r w' => SHap s e base (OwnB s A B L c d q) w.heap.size r w' ∧ BelF base (OwnB s A B L c d q) w w' := by
  have hge : decide ((s.bs.length : Int) ≤ e.n) = true := by simp; omega
  have hg : (s.bs.length : Int) ≤ e.n := by omega
  have HT := Lib.hid ht
  clear ht hn
  have OWN := Lib.hid own
  clear own
  go_enter Tryz.func100, Tryz.ntmps100
  go_upto_region 1 with fail
  have h := hs_new e hb OWN.out #[.int .i64 s.sz, .float .f32 s.st, .float .f32 s.li.1, .float .f32 s.li.2.1, .float .f32 s.li.2.2, .slice A s.sh.length c, .int .i64 s.mir, .complex .f32 s.gr.1 s.gr.2, .float .f32 s.loss, .slice B s.bs.length d, .int .i64 s.tk, .slice L s.log.length q] #[.int .i64 0, .float .f32 0, .float .f32 0, .float .f32 0, .float .f32 0, .slice none 0 0, .int .i64 0, .complex .f32 0 0, .float .f32 0, .slice none 0 0, .int .i64 0, .slice none 0 0] 34 38 34 rfl rfl #[.int .i64 e.k, .int .i64 e.n, .complex .f32 e.z.1 e.z.2, .complex .f32 e.s.1.1 e.s.1.2, .complex .f32 e.s.2.1.1 e.s.2.1.2, .complex .f32 e.s.2.2.1.1 e.s.2.2.1.2, .float .f32 e.s.2.2.2.1.1, .float .f32 e.s.2.2.2.1.2.1, .float .f32 e.s.2.2.2.1.2.2, .float .f32 e.s.2.2.2.2, .float .f32 e.c.1, .float .f32 e.c.2.1, .float .f32 e.c.2.2] rfl
  obtain ⟨W, hWe⟩ : ∃ W, W = ((w.alloc (Obj.cells #[.int .i64 s.sz, .float .f32 s.st, .float .f32 s.li.1, .float .f32 s.li.2.1, .float .f32 s.li.2.2, .slice A s.sh.length c, .int .i64 s.mir, .complex .f32 s.gr.1 s.gr.2, .float .f32 s.loss, .slice B s.bs.length d, .int .i64 s.tk, .slice L s.log.length q] 34)).alloc (Obj.cells #[.int .i64 e.k, .int .i64 e.n, .complex .f32 e.z.1 e.z.2, .complex .f32 e.s.1.1 e.s.1.2, .complex .f32 e.s.2.1.1 e.s.2.1.2, .complex .f32 e.s.2.2.1.1 e.s.2.2.1.2, .float .f32 e.s.2.2.2.1.1, .float .f32 e.s.2.2.2.1.2.1, .float .f32 e.s.2.2.2.1.2.2, .float .f32 e.s.2.2.2.2, .float .f32 e.c.1, .float .f32 e.c.2.1, .float .f32 e.c.2.2] 38)).alloc (Obj.cells #[.int .i64 0, .float .f32 0, .float .f32 0, .float .f32 0, .float .f32 0, .slice none 0 0, .int .i64 0, .complex .f32 0 0, .float .f32 0, .slice none 0 0, .int .i64 0, .slice none 0 0] 34) := ⟨_, rfl⟩
  rw [← hWe] at h
  rw [← hWe]
  clear hWe hb OWN
  have lx := h.lt
  have a0 := h.cx 0 _ rfl; have a1 := h.cx 1 _ rfl; have a2 := h.cx 2 _ rfl; have a3 := h.cx 3 _ rfl; have a4 := h.cx 4 _ rfl; have a5 := h.cx 5 _ rfl; have a6 := h.cx 6 _ rfl; have a7 := h.cx 7 _ rfl; have a8 := h.cx 8 _ rfl; have a9 := h.cx 9 _ rfl; have a10 := h.cx 10 _ rfl; have a11 := h.cx 11 _ rfl
  have y0 := h.cy 0 _ rfl; have y1 := h.cy 1 _ rfl; have y2 := h.cy 2 _ rfl; have y3 := h.cy 3 _ rfl; have y4 := h.cy 4 _ rfl; have y5 := h.cy 5 _ rfl; have y6 := h.cy 6 _ rfl; have y7 := h.cy 7 _ rfl; have y8 := h.cy 8 _ rfl; have y9 := h.cy 9 _ rfl; have y10 := h.cy 10 _ rfl; have y11 := h.cy 11 _ rfl; have y12 := h.cy 12 _ rfl
  go_upto_region 10 with fail
  clear a0 a1 a2 a3 a4 a5 a6 a7 a8 a9 a10 a11 y0 y1 y2 y3 y4 y5 y6 y7 y8 y9 y10 y11 y12
  have a0 := h.cx 0 _ rfl; have a1 := h.cx 1 _ rfl; have a2 := h.cx 2 _ rfl; have a3 := h.cx 3 _ rfl; have a4 := h.cx 4 _ rfl; have a5 := h.cx 5 _ rfl; have a6 := h.cx 6 _ rfl; have a7 := h.cx 7 _ rfl; have a8 := h.cx 8 _ rfl; have a9 := h.cx 9 _ rfl; have a10 := h.cx 10 _ rfl; have a11 := h.cx 11 _ rfl
  have o0 := h.co 0 _ rfl; have o1 := h.co 1 _ rfl; have o2 := h.co 2 _ rfl; have o3 := h.co 3 _ rfl; have o4 := h.co 4 _ rfl; have o5 := h.co 5 _ rfl; have o6 := h.co 6 _ rfl; have o7 := h.co 7 _ rfl; have o8 := h.co 8 _ rfl; have o9 := h.co 9 _ rfl; have o10 := h.co 10 _ rfl; have o11 := h.co 11 _ rfl
  have fo : FA _ (w.heap.size + 1 + 1) := h.fo
  have g0 := fo 0; have g1 := fo 1; have g2 := fo 2; have g3 := fo 3; have g4 := fo 4; have g5 := fo 5; have g6 := fo 6; have g7 := fo 7; have g8 := fo 8; have g9 := fo 9; have g10 := fo 10; have g11 := fo 11
  have lx := h.lt
  go_wp2
  have hz := ((((((((((((h.puto 0 (.int .i64 (s).sz)).puto 1 (.float .f32 (s).st)).puto 2 (.float .f32 (s).li.1)).puto 3 (.float .f32 (s).li.2.1)).puto 4 (.float .f32 (s).li.2.2)).puto 5 (.slice A s.sh.length c)).puto 6 (.int .i64 (s).mir)).puto 7 (.complex .f32 (s).gr.1 (s).gr.2)).puto 8 (.float .f32 (s).loss)).puto 9 (.slice B s.bs.length d)).puto 10 (.int .i64 (s).tk)).puto 11 (.slice L s.log.length q))
  have co : CA _ (w.heap.size + 1 + 1) _ := hz.co
  have own := hz.own
  have bel := hz.bel
  have hin := And.intro hz.iA (And.intro hz.iB hz.iL)
  clear hz
  have z0 := co 0 _ rfl; have z1 := co 1 _ rfl; have z2 := co 2 _ rfl; have z3 := co 3 _ rfl; have z4 := co 4 _ rfl; have z5 := co 5 _ rfl; have z6 := co 6 _ rfl; have z7 := co 7 _ rfl; have z8 := co 8 _ rfl; have z9 := co 9 _ rfl; have z10 := co 10 _ rfl; have z11 := co 11 _ rfl
  refine bodyPost_ret (v := .tuple #[.agg #[.int .i64 (s).sz, .float .f32 (s).st, .float .f32 (s).li.1, .float .f32 (s).li.2.1, .float .f32 (s).li.2.2, .slice A s.sh.length c, .int .i64 (s).mir, .complex .f32 (s).gr.1 (s).gr.2, .float .f32 (s).loss, .slice B s.bs.length d, .int .i64 (s).tk, .slice L s.log.length q], .bool false]) (by simp [results, Tryz.results100, go_sem, z0, z1, z2, z3, z4, z5, z6, z7, z8, z9, z10, z11]) rfl ⟨?_, bel⟩
  exact sHap_no (t := s) own hin rfl rfl HT.out
set_option maxRecDepth 100000 in
set_option maxHeartbeats 4000000 in
theorem sDo_none6 (s : Shw) (e : Ev) (h6 : (e.k == 6) = true) (h1 : (e.k == 1) = false) (h2 : (e.k == 2) = false) (h3 : (e.k == 3) = false) (h4 : (e.k == 4) = false) (h5 : (e.k == 5) = false) (hn : ¬ e.n < (s.bs.length : Int)) (ht : hap s e = none) (A B L : Option Addr) (c d q base : Nat) (w : World) (hb : base ≤ w.heap.size) (own : OwnS w base s A B L c d q) :
    Calls Tryz.prog 100 #[.agg #[.int .i64 s.sz, .float .f32 s.st, .float .f32 s.li.1, .float .f32 s.li.2.1, .float .f32 s.li.2.2, .slice A s.sh.length c, .int .i64 s.mir, .complex .f32 s.gr.1 s.gr.2, .float .f32 s.loss, .slice B s.bs.length d, .int .i64 s.tk, .slice L s.log.length q], .agg #[.int .i64 e.k, .int .i64 e.n, .complex .f32 e.z.1 e.z.2, .complex .f32 e.s.1.1 e.s.1.2, .complex .f32 e.s.2.1.1 e.s.2.1.2, .complex .f32 e.s.2.2.1.1 e.s.2.2.1.2, .float .f32 e.s.2.2.2.1.1, .float .f32 e.s.2.2.2.1.2.1, .float .f32 e.s.2.2.2.1.2.2, .float .f32 e.s.2.2.2.2, .float .f32 e.c.1, .float .f32 e.c.2.1, .float .f32 e.c.2.2]] w fun r w' => SHap s e base (OwnB s A B L c d q) w.heap.size r w' ∧ BelF base (OwnB s A B L c d q) w w' := by
  have hge : decide ((s.bs.length : Int) ≤ e.n) = true := by simp; omega
  have hg : (s.bs.length : Int) ≤ e.n := by omega
  have HT := Lib.hid ht
  clear ht hn
  have OWN := Lib.hid own
  clear own
  go_enter Tryz.func100, Tryz.ntmps100
  go_upto_region 1 with fail
  have h := hs_new e hb OWN.out #[.int .i64 s.sz, .float .f32 s.st, .float .f32 s.li.1, .float .f32 s.li.2.1, .float .f32 s.li.2.2, .slice A s.sh.length c, .int .i64 s.mir, .complex .f32 s.gr.1 s.gr.2, .float .f32 s.loss, .slice B s.bs.length d, .int .i64 s.tk, .slice L s.log.length q] #[.int .i64 0, .float .f32 0, .float .f32 0, .float .f32 0, .float .f32 0, .slice none 0 0, .int .i64 0, .complex .f32 0 0, .float .f32 0, .slice none 0 0, .int .i64 0, .slice none 0 0] 34 38 34 rfl rfl #[.int .i64 e.k, .int .i64 e.n, .complex .f32 e.z.1 e.z.2, .complex .f32 e.s.1.1 e.s.1.2, .complex .f32 e.s.2.1.1 e.s.2.1.2, .complex .f32 e.s.2.2.1.1 e.s.2.2.1.2, .float .f32 e.s.2.2.2.1.1, .float .f32 e.s.2.2.2.1.2.1, .float .f32 e.s.2.2.2.1.2.2, .float .f32 e.s.2.2.2.2, .float .f32 e.c.1, .float .f32 e.c.2.1, .float .f32 e.c.2.2] rfl
  obtain ⟨W, hWe⟩ : ∃ W, W = ((w.alloc (Obj.cells #[.int .i64 s.sz, .float .f32 s.st, .float .f32 s.li.1, .float .f32 s.li.2.1, .float .f32 s.li.2.2, .slice A s.sh.length c, .int .i64 s.mir, .complex .f32 s.gr.1 s.gr.2, .float .f32 s.loss, .slice B s.bs.length d, .int .i64 s.tk, .slice L s.log.length q] 34)).alloc (Obj.cells #[.int .i64 e.k, .int .i64 e.n, .complex .f32 e.z.1 e.z.2, .complex .f32 e.s.1.1 e.s.1.2, .complex .f32 e.s.2.1.1 e.s.2.1.2, .complex .f32 e.s.2.2.1.1 e.s.2.2.1.2, .float .f32 e.s.2.2.2.1.1, .float .f32 e.s.2.2.2.1.2.1, .float .f32 e.s.2.2.2.1.2.2, .float .f32 e.s.2.2.2.2, .float .f32 e.c.1, .float .f32 e.c.2.1, .float .f32 e.c.2.2] 38)).alloc (Obj.cells #[.int .i64 0, .float .f32 0, .float .f32 0, .float .f32 0, .float .f32 0, .slice none 0 0, .int .i64 0, .complex .f32 0 0, .float .f32 0, .slice none 0 0, .int .i64 0, .slice none 0 0] 34) := ⟨_, rfl⟩
  rw [← hWe] at h
  rw [← hWe]
  clear hWe hb OWN
  have lx := h.lt
  have a0 := h.cx 0 _ rfl; have a1 := h.cx 1 _ rfl; have a2 := h.cx 2 _ rfl; have a3 := h.cx 3 _ rfl; have a4 := h.cx 4 _ rfl; have a5 := h.cx 5 _ rfl; have a6 := h.cx 6 _ rfl; have a7 := h.cx 7 _ rfl; have a8 := h.cx 8 _ rfl; have a9 := h.cx 9 _ rfl; have a10 := h.cx 10 _ rfl; have a11 := h.cx 11 _ rfl
  have y0 := h.cy 0 _ rfl; have y1 := h.cy 1 _ rfl; have y2 := h.cy 2 _ rfl; have y3 := h.cy 3 _ rfl; have y4 := h.cy 4 _ rfl; have y5 := h.cy 5 _ rfl; have y6 := h.cy 6 _ rfl; have y7 := h.cy 7 _ rfl; have y8 := h.cy 8 _ rfl; have y9 := h.cy 9 _ rfl; have y10 := h.cy 10 _ rfl; have y11 := h.cy 11 _ rfl; have y12 := h.cy 12 _ rfl
  go_upto_region 21 with fail
  clear a0 a1 a2 a3 a4 a5 a6 a7 a8 a9 a10 a11 y0 y1 y2 y3 y4 y5 y6 y7 y8 y9 y10 y11 y12
  have a0 := h.cx 0 _ rfl; have a1 := h.cx 1 _ rfl; have a2 := h.cx 2 _ rfl; have a3 := h.cx 3 _ rfl; have a4 := h.cx 4 _ rfl; have a5 := h.cx 5 _ rfl; have a6 := h.cx 6 _ rfl; have a7 := h.cx 7 _ rfl; have a8 := h.cx 8 _ rfl; have a9 := h.cx 9 _ rfl; have a10 := h.cx 10 _ rfl; have a11 := h.cx 11 _ rfl
  have o0 := h.co 0 _ rfl; have o1 := h.co 1 _ rfl; have o2 := h.co 2 _ rfl; have o3 := h.co 3 _ rfl; have o4 := h.co 4 _ rfl; have o5 := h.co 5 _ rfl; have o6 := h.co 6 _ rfl; have o7 := h.co 7 _ rfl; have o8 := h.co 8 _ rfl; have o9 := h.co 9 _ rfl; have o10 := h.co 10 _ rfl; have o11 := h.co 11 _ rfl
  have fo : FA _ (w.heap.size + 1 + 1) := h.fo
  have g0 := fo 0; have g1 := fo 1; have g2 := fo 2; have g3 := fo 3; have g4 := fo 4; have g5 := fo 5; have g6 := fo 6; have g7 := fo 7; have g8 := fo 8; have g9 := fo 9; have g10 := fo 10; have g11 := fo 11
  have lx := h.lt
  go_wp2
  have hz := ((((((((((((h.puto 0 (.int .i64 (s).sz)).puto 1 (.float .f32 (s).st)).puto 2 (.float .f32 (s).li.1)).puto 3 (.float .f32 (s).li.2.1)).puto 4 (.float .f32 (s).li.2.2)).puto 5 (.slice A s.sh.length c)).puto 6 (.int .i64 (s).mir)).puto 7 (.complex .f32 (s).gr.1 (s).gr.2)).puto 8 (.float .f32 (s).loss)).puto 9 (.slice B s.bs.length d)).puto 10 (.int .i64 (s).tk)).puto 11 (.slice L s.log.length q))
  have co : CA _ (w.heap.size + 1 + 1) _ := hz.co
  have own := hz.own
  have bel := hz.bel
  have hin := And.intro hz.iA (And.intro hz.iB hz.iL)
  clear hz
  have z0 := co 0 _ rfl; have z1 := co 1 _ rfl; have z2 := co 2 _ rfl; have z3 := co 3 _ rfl; have z4 := co 4 _ rfl; have z5 := co 5 _ rfl; have z6 := co 6 _ rfl; have z7 := co 7 _ rfl; have z8 := co 8 _ rfl; have z9 := co 9 _ rfl; have z10 := co 10 _ rfl; have z11 := co 11 _ rfl
  refine bodyPost_ret (v := .tuple #[.agg #[.int .i64 (s).sz, .float .f32 (s).st, .float .f32 (s).li.1, .float .f32 (s).li.2.1, .float .f32 (s).li.2.2, .slice A s.sh.length c, .int .i64 (s).mir, .complex .f32 (s).gr.1 (s).gr.2, .float .f32 (s).loss, .slice B s.bs.length d, .int .i64 (s).tk, .slice L s.log.length q], .bool false]) (by simp [results, Tryz.results100, go_sem, z0, z1, z2, z3, z4, z5, z6, z7, z8, z9, z10, z11]) rfl ⟨?_, bel⟩
  exact sHap_no (t := s) own hin rfl rfl HT.out
end Go.Proofs.YthlphmojldbpkaaGreat
