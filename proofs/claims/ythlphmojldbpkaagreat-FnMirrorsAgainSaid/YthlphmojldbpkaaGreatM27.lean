/- SDoM · SDoW · SDoAny -/
import Derived.Test.YthlphmojldbpkaaGreatM16
import Derived.Test.YthlphmojldbpkaaGreatM1
import Derived.Test.YthlphmojldbpkaaGreatM23
import Derived.Test.YthlphmojldbpkaaGreatSWait
import Derived.Deep.RegionHeld3
import Derived.Deep.RegionLaw
import Derived.Deep.QuietTactic
import Derived.BigQuiet
import Derived.Test.YthlphmojldbpkaaGreatSDoG
import Derived.Test.YthlphmojldbpkaaGreatM21

/- l6Do: the specification's, other mirrors. -/
namespace Go.Proofs.YthlphmojldbpkaaGreat
open Go.RowKit
attribute [local go_sem] run_store_float run_store_complex



theorem own_slice_none {w : World} {base : Nat} {E : TypeId} {sz n c : Nat} {xs : List Value} (h : w.ownsRow base E sz (.slice none n c) n xs) : n = 0 ∧ c = 0 := by
  rcases h.2 with ⟨h1, h0⟩ | ⟨g, cap, cur, h1, _⟩
  · injection h1 with _ _ h2
    exact ⟨h0, h2⟩
  · injection h1 with h1 _ _
    cases h1
set_option maxRecDepth 100000 in
set_option maxHeartbeats 4000000 in
theorem specMirrors_nil (mir kind : Int) (gr : Pt) (loss : Nat) (w : World) :
    Calls Tryz.prog 135 #[.agg #[.int .i64 mir, .complex .f32 gr.1 gr.2, .float .f32 loss, .slice none 0 0], .int .i64 kind] w fun r w' => r = .returned (.agg #[.int .i64 kind, .complex .f32 gr.1 gr.2, .float .f32 loss, .slice none 0 0]) ∧ Below w.heap.size w w' := by
  go_enter Tryz.func135, Tryz.ntmps135
  go_wp2_with fail
  go_loopw [15] (fun i wr => i = .int .i64 0 ∧ WS w [.int .i64 kind, .complex .f32 gr.1 gr.2, .float .f32 loss, .slice none 0 0] [.int .i64 0, .complex .f32 0 0, .float .f32 0, .slice none 0 0] wr) (fun _ _ => 0)
  case atStart =>
    refine ⟨rfl, ?_⟩
    exact ws_new (w := w) #[.int .i64 kind, .complex .f32 gr.1 gr.2, .float .f32 loss, .slice none 0 0] #[.int .i64 0, .complex .f32 0 0, .float .f32 0, .slice none 0 0] 31 31
  case round =>
    obtain ⟨rfl, h⟩ := hrel
    have HH := Lib.hid h
    have a0 := h.cx 0 _ rfl; have a1 := h.cx 1 _ rfl; have a2 := h.cx 2 _ rfl; have a3 := h.cx 3 _ rfl
    have o0 := h.co 0 _ rfl; have o1 := h.co 1 _ rfl; have o2 := h.co 2 _ rfl; have o3 := h.co 3 _ rfl
    have f0 := h.fo 0; have f1 := h.fo 1; have f2 := h.fo 2; have f3 := h.fo 3
    have lx := h.lt
    have lx0 : w.heap.size < wr.heap.size := by omega
    clear h
    go_wp2
    have hz := (((HH.out.puto 0 (.int .i64 kind)).puto 1 (.complex .f32 gr.1 gr.2)).puto 2 (.float .f32 loss)).puto 3 (.slice none 0 0)
    have z0 := hz.co 0 _ rfl; have z1 := hz.co 1 _ rfl; have z2 := hz.co 2 _ rfl; have z3 := hz.co 3 _ rfl
    refine bodyPost_ret (v := .agg #[.int .i64 kind, .complex .f32 gr.1 gr.2, .float .f32 loss, .slice none 0 0]) (by simp [results, Tryz.results135, go_sem, z0, z1, z2, z3]) rfl ⟨rfl, hz.bel⟩

theorem mir_facts {s : Shw} {n : Int} (hg : Good s) (hk : okS s = true) (hn : inB n 0 3 = true) : ∀ b ∈ s.bs, foldS n b.1 = foldP n b.1 ∧ actS (foldP n b.1).2.1.1 (foldP n b.1).2.1.2 b.2.1 b.2.2 = actP (foldP n b.1).2.1.1 (foldP n b.1).2.1.2 b.2.1 b.2.2 ∧ inB (foldP n b.1).2.1.1 0 3 = true := by
  intro b hb
  obtain ⟨c1, c2⟩ := hg.cw b hb
  have hp : pointB b.1.1 b.1.2 = true := by
    have := hg.wed b hb
    unfold wedgeB at this
    rw [Bool.and_eq_true] at this
    exact this.1
  obtain ⟨f1, _, f3, _, _⟩ := fold_facts hn (p32_of_cw c1) hp
  exact ⟨f1, by rw [act_eq32 (p32_of_cw c2), actP_yes f3 ((okS_parts.1 hk).2.1 b hb)], f3⟩
set_option maxRecDepth 100000 in
set_option maxHeartbeats 4000000 in
theorem sDo_mirrors (s : Shw) (e : Ev) (he : e = .mirrors e.n) (hn : inB e.n 0 3 = true) (hg : Good s) (hk : okS s = true) (hm : s.bs.length ≤ 1000) (A B L : Option Addr) (c d q base : Nat) (w : World) (hb : base ≤ w.heap.size) (own : OwnS w base s A B L c d q) :
    Calls Tryz.prog 100 #[.agg #[.int .i64 s.sz, .float .f32 s.st, .float .f32 s.li.1, .float .f32 s.li.2.1, .float .f32 s.li.2.2, .slice A s.sh.length c, .int .i64 s.mir, .complex .f32 s.gr.1 s.gr.2, .float .f32 s.loss, .slice B s.bs.length d, .int .i64 s.tk, .slice L s.log.length q], .agg #[.int .i64 e.k, .int .i64 e.n, .complex .f32 e.z.1 e.z.2, .complex .f32 e.s.1.1 e.s.1.2, .complex .f32 e.s.2.1.1 e.s.2.1.2, .complex .f32 e.s.2.2.1.1 e.s.2.2.1.2, .float .f32 e.s.2.2.2.1.1, .float .f32 e.s.2.2.2.1.2.1, .float .f32 e.s.2.2.2.1.2.2, .float .f32 e.s.2.2.2.2, .float .f32 e.c.1, .float .f32 e.c.2.1, .float .f32 e.c.2.2]] w fun r w' => SHap s e base (OwnB s A B L c d q) w.heap.size r w' ∧ BelF base (OwnB s A B L c d q) w w' := by
  have k1 : (e.k == 1) = false := by rw [he]; rfl
  have k2 : (e.k == 2) = false := by rw [he]; rfl
  have k3 : (e.k == 3) = false := by rw [he]; rfl
  have k4 : (e.k == 4) = true := by rw [he]; rfl
  have hff := mir_facts hg hk hn
  have ht : hap s e = some { s with mir := e.n, bs := s.bs.map (mirBd e.n) } := by rw [he]; rfl
  have hll : (s.bs.map (mirBd e.n)).length = s.bs.length := by simp
  have HT := Lib.hid ht
  have HLL := Lib.hid hll
  have FF := Lib.hid hff
  clear he ht hg hk hn hll hff
  have OWN := Lib.hid own
  clear own
  go_enter Tryz.func100, Tryz.ntmps100
  go_upto_region 1 with fail
  have h := hs_new e hb OWN.out #[.int .i64 s.sz, .float .f32 s.st, .float .f32 s.li.1, .float .f32 s.li.2.1, .float .f32 s.li.2.2, .slice A s.sh.length c, .int .i64 s.mir, .complex .f32 s.gr.1 s.gr.2, .float .f32 s.loss, .slice B s.bs.length d, .int .i64 s.tk, .slice L s.log.length q] #[.int .i64 0, .float .f32 0, .float .f32 0, .float .f32 0, .float .f32 0, .slice none 0 0, .int .i64 0, .complex .f32 0 0, .float .f32 0, .slice none 0 0, .int .i64 0, .slice none 0 0] 34 38 34 rfl rfl #[.int .i64 e.k, .int .i64 e.n, .complex .f32 e.z.1 e.z.2, .complex .f32 e.s.1.1 e.s.1.2, .complex .f32 e.s.2.1.1 e.s.2.1.2, .complex .f32 e.s.2.2.1.1 e.s.2.2.1.2, .float .f32 e.s.2.2.2.1.1, .float .f32 e.s.2.2.2.1.2.1, .float .f32 e.s.2.2.2.1.2.2, .float .f32 e.s.2.2.2.2, .float .f32 e.c.1, .float .f32 e.c.2.1, .float .f32 e.c.2.2] rfl
  obtain ⟨W, hWe⟩ : ∃ W, W = ((w.alloc (Obj.cells #[.int .i64 s.sz, .float .f32 s.st, .float .f32 s.li.1, .float .f32 s.li.2.1, .float .f32 s.li.2.2, .slice A s.sh.length c, .int .i64 s.mir, .complex .f32 s.gr.1 s.gr.2, .float .f32 s.loss, .slice B s.bs.length d, .int .i64 s.tk, .slice L s.log.length q] 34)).alloc (Obj.cells #[.int .i64 e.k, .int .i64 e.n, .complex .f32 e.z.1 e.z.2, .complex .f32 e.s.1.1 e.s.1.2, .complex .f32 e.s.2.1.1 e.s.2.1.2, .complex .f32 e.s.2.2.1.1 e.s.2.2.1.2, .float .f32 e.s.2.2.2.1.1, .float .f32 e.s.2.2.2.1.2.1, .float .f32 e.s.2.2.2.1.2.2, .float .f32 e.s.2.2.2.2, .float .f32 e.c.1, .float .f32 e.c.2.1, .float .f32 e.c.2.2] 38)).alloc (Obj.cells #[.int .i64 0, .float .f32 0, .float .f32 0, .float .f32 0, .float .f32 0, .slice none 0 0, .int .i64 0, .complex .f32 0 0, .float .f32 0, .slice none 0 0, .int .i64 0, .slice none 0 0] 34) := ⟨_, rfl⟩
  rw [← hWe] at h
  rw [← hWe]
  clear hWe hb OWN
  have lx := h.lt
  have a0 := h.cx 0 _ rfl; have a1 := h.cx 1 _ rfl; have a2 := h.cx 2 _ rfl; have a3 := h.cx 3 _ rfl; have a4 := h.cx 4 _ rfl; have a5 := h.cx 5 _ rfl; have a6 := h.cx 6 _ rfl; have a7 := h.cx 7 _ rfl; have a8 := h.cx 8 _ rfl; have a9 := h.cx 9 _ rfl; have a10 := h.cx 10 _ rfl; have a11 := h.cx 11 _ rfl
  have y0 := h.cy 0 _ rfl; have y1 := h.cy 1 _ rfl; have y2 := h.cy 2 _ rfl; have y3 := h.cy 3 _ rfl; have y4 := h.cy 4 _ rfl; have y5 := h.cy 5 _ rfl; have y6 := h.cy 6 _ rfl; have y7 := h.cy 7 _ rfl; have y8 := h.cy 8 _ rfl; have y9 := h.cy 9 _ rfl; have y10 := h.cy 10 _ rfl; have y11 := h.cy 11 _ rfl; have y12 := h.cy 12 _ rfl
  cases B with
  | none =>
    obtain ⟨n0, d0⟩ := own_slice_none h.own.2.1
    have KM := Lib.hid (fun w => specMirrors_nil s.mir e.n s.gr s.loss w)
    have hb0 : s.bs = [] := List.eq_nil_of_length_eq_zero n0
    rw [n0, d0] at a9
    have N0 := Lib.hid (And.intro n0 (And.intro d0 hb0))
    clear n0 d0 hb0
    go_upto_region 16 with fail
    go_wp2_with fail
    (with_reducible refine (KM.out _).mono ?_)
    rintro r w5 ⟨rfl, hb⟩
    replace h := h.below_ hb
    have lx := h.lt
    clear a0 a1 a2 a3 a4 a5 a6 a7 a8 a9 a10 a11 y0 y1 y2 y3 y4 y5 y6 y7 y8 y9 y10 y11 y12 hb KM
    have a0 := h.cx 0 _ rfl; have a1 := h.cx 1 _ rfl; have a2 := h.cx 2 _ rfl; have a3 := h.cx 3 _ rfl; have a4 := h.cx 4 _ rfl; have a5 := h.cx 5 _ rfl; have a6 := h.cx 6 _ rfl; have a7 := h.cx 7 _ rfl; have a8 := h.cx 8 _ rfl; have a9 := h.cx 9 _ rfl; have a10 := h.cx 10 _ rfl; have a11 := h.cx 11 _ rfl
    have f0 := h.fx 0; have f1 := h.fx 1; have f2 := h.fx 2; have f3 := h.fx 3; have f4 := h.fx 4; have f5 := h.fx 5; have f6 := h.fx 6; have f7 := h.fx 7; have f8 := h.fx 8; have f9 := h.fx 9; have f10 := h.fx 10; have f11 := h.fx 11
    rw [N0.out.1, N0.out.2.1] at a9
    go_upto_region 23 with fail
    clear a0 a1 a2 a3 a4 a5 a6 a7 a8 a9 a10 a11 f0 f1 f2 f3 f4 f5 f6 f7 f8 f9 f10 f11
    replace h := ((((h.put 6 (.int .i64 e.n)).put 7 (.complex .f32 s.gr.1 s.gr.2)).put 8 (.float .f32 s.loss)).put 9 (.slice none 0 0)); obtain ⟨U, hUe⟩ : ∃ U, U = ((((w5.setCell ⟨w.heap.size, 6, none⟩ (.int .i64 e.n)).setCell ⟨w.heap.size, 7, none⟩ (.complex .f32 s.gr.1 s.gr.2)).setCell ⟨w.heap.size, 8, none⟩ (.float .f32 s.loss)).setCell ⟨w.heap.size, 9, none⟩ (.slice none 0 0)) := ⟨_, rfl⟩; rw [← hUe] at h; rw [← hUe]; clear hUe; replace lx := h.lt
    replace h := h.as { s with mir := e.n, bs := s.bs.map (mirBd e.n) } rfl (by show s.bs.map (mirBd e.n) = s.bs; rw [N0.out.2.2]; rfl) rfl
    have a0 := h.cx 0 _ rfl; have a1 := h.cx 1 _ rfl; have a2 := h.cx 2 _ rfl; have a3 := h.cx 3 _ rfl; have a4 := h.cx 4 _ rfl; have a5 := h.cx 5 _ rfl; have a6 := h.cx 6 _ rfl; have a7 := h.cx 7 _ rfl; have a8 := h.cx 8 _ rfl; have a9 := h.cx 9 _ rfl; have a10 := h.cx 10 _ rfl; have a11 := h.cx 11 _ rfl
    have o0 := h.co 0 _ rfl; have o1 := h.co 1 _ rfl; have o2 := h.co 2 _ rfl; have o3 := h.co 3 _ rfl; have o4 := h.co 4 _ rfl; have o5 := h.co 5 _ rfl; have o6 := h.co 6 _ rfl; have o7 := h.co 7 _ rfl; have o8 := h.co 8 _ rfl; have o9 := h.co 9 _ rfl; have o10 := h.co 10 _ rfl; have o11 := h.co 11 _ rfl
    have fo : FA _ (w.heap.size + 1 + 1) := h.fo
    have g0 := fo 0; have g1 := fo 1; have g2 := fo 2; have g3 := fo 3; have g4 := fo 4; have g5 := fo 5; have g6 := fo 6; have g7 := fo 7; have g8 := fo 8; have g9 := fo 9; have g10 := fo 10; have g11 := fo 11
    have lx := h.lt
    go_wp2
    have hz := ((((((((((((h.puto 0 (.int .i64 (({ s with mir := e.n, bs := s.bs.map (mirBd e.n) } : Shw)).sz)).puto 1 (.float .f32 (({ s with mir := e.n, bs := s.bs.map (mirBd e.n) } : Shw)).st)).puto 2 (.float .f32 (({ s with mir := e.n, bs := s.bs.map (mirBd e.n) } : Shw)).li.1)).puto 3 (.float .f32 (({ s with mir := e.n, bs := s.bs.map (mirBd e.n) } : Shw)).li.2.1)).puto 4 (.float .f32 (({ s with mir := e.n, bs := s.bs.map (mirBd e.n) } : Shw)).li.2.2)).puto 5 (.slice A s.sh.length c)).puto 6 (.int .i64 (({ s with mir := e.n, bs := s.bs.map (mirBd e.n) } : Shw)).mir)).puto 7 (.complex .f32 (({ s with mir := e.n, bs := s.bs.map (mirBd e.n) } : Shw)).gr.1 (({ s with mir := e.n, bs := s.bs.map (mirBd e.n) } : Shw)).gr.2)).puto 8 (.float .f32 (({ s with mir := e.n, bs := s.bs.map (mirBd e.n) } : Shw)).loss)).puto 9 (.slice none 0 0)).puto 10 (.int .i64 (({ s with mir := e.n, bs := s.bs.map (mirBd e.n) } : Shw)).tk)).puto 11 (.slice L s.log.length q))
    have co : CA _ (w.heap.size + 1 + 1) _ := hz.co
    have own := hz.own
    have bel := hz.bel
    have hin := And.intro hz.iA (And.intro hz.iB hz.iL)
    clear hz
    have z0 := co 0 _ rfl; have z1 := co 1 _ rfl; have z2 := co 2 _ rfl; have z3 := co 3 _ rfl; have z4 := co 4 _ rfl; have z5 := co 5 _ rfl; have z6 := co 6 _ rfl; have z7 := co 7 _ rfl; have z8 := co 8 _ rfl; have z9 := co 9 _ rfl; have z10 := co 10 _ rfl; have z11 := co 11 _ rfl
    refine bodyPost_ret (v := .tuple #[.agg #[.int .i64 (({ s with mir := e.n, bs := s.bs.map (mirBd e.n) } : Shw)).sz, .float .f32 (({ s with mir := e.n, bs := s.bs.map (mirBd e.n) } : Shw)).st, .float .f32 (({ s with mir := e.n, bs := s.bs.map (mirBd e.n) } : Shw)).li.1, .float .f32 (({ s with mir := e.n, bs := s.bs.map (mirBd e.n) } : Shw)).li.2.1, .float .f32 (({ s with mir := e.n, bs := s.bs.map (mirBd e.n) } : Shw)).li.2.2, .slice A s.sh.length c, .int .i64 (({ s with mir := e.n, bs := s.bs.map (mirBd e.n) } : Shw)).mir, .complex .f32 (({ s with mir := e.n, bs := s.bs.map (mirBd e.n) } : Shw)).gr.1 (({ s with mir := e.n, bs := s.bs.map (mirBd e.n) } : Shw)).gr.2, .float .f32 (({ s with mir := e.n, bs := s.bs.map (mirBd e.n) } : Shw)).loss, .slice none 0 0, .int .i64 (({ s with mir := e.n, bs := s.bs.map (mirBd e.n) } : Shw)).tk, .slice L s.log.length q], .bool true]) (by simp [results, Tryz.results100, go_sem, z0, z1, z2, z3, z4, z5, z6, z7, z8, z9, z10, z11]) rfl ⟨?_, bel⟩
    exact sHap_yes (t := { s with mir := e.n, bs := s.bs.map (mirBd e.n) }) own hin (by simp [N0.out.1, N0.out.2.1]) rfl HT.out
  | some ad =>
    obtain ⟨g, ea⟩ : ∃ g, ad = ⟨g, 0, none⟩ := by
      rcases h.own.2.1.2 with ⟨h1, _⟩ | ⟨g, cap, cur, h1, _⟩
      · cases h1
      · injection h1 with h1 _ _
        injection h1 with h1
        exact ⟨g, h1⟩
    subst ea
    have KM := Lib.hid (fun (w : World) o => specMirrors_any s.mir e.n s.gr s.loss g s.bs.length d base s.bs w hm rfl FF.out o)
    have OB := Lib.hid (show W.ownsRow base 54 2 (.slice (some ⟨g, 0, none⟩) s.bs.length d) s.bs.length (flat bdC s.bs) from h.own.2.1)
    go_upto_region 16 with fail
    go_wp2_with fail
    (with_reducible refine (KM.out _ OB.out).mono ?_)
    rintro r w5 ⟨rfl, oB, gr⟩
    have o2 := oB
    rw [← HLL.out] at o2
    replace h := h.growB (bs := s.bs.map (mirBd e.n)) gr o2 (.inl rfl)
    have lx := h.lt
    clear a0 a1 a2 a3 a4 a5 a6 a7 a8 a9 a10 a11 y0 y1 y2 y3 y4 y5 y6 y7 y8 y9 y10 y11 y12 oB o2 gr OB KM
    have a0 := h.cx 0 _ rfl; have a1 := h.cx 1 _ rfl; have a2 := h.cx 2 _ rfl; have a3 := h.cx 3 _ rfl; have a4 := h.cx 4 _ rfl; have a5 := h.cx 5 _ rfl; have a6 := h.cx 6 _ rfl; have a7 := h.cx 7 _ rfl; have a8 := h.cx 8 _ rfl; have a9 := h.cx 9 _ rfl; have a10 := h.cx 10 _ rfl; have a11 := h.cx 11 _ rfl
    have f0 := h.fx 0; have f1 := h.fx 1; have f2 := h.fx 2; have f3 := h.fx 3; have f4 := h.fx 4; have f5 := h.fx 5; have f6 := h.fx 6; have f7 := h.fx 7; have f8 := h.fx 8; have f9 := h.fx 9; have f10 := h.fx 10; have f11 := h.fx 11
    go_upto_region 23 with fail
    clear a0 a1 a2 a3 a4 a5 a6 a7 a8 a9 a10 a11 f0 f1 f2 f3 f4 f5 f6 f7 f8 f9 f10 f11
    replace h := ((((h.put 6 (.int .i64 e.n)).put 7 (.complex .f32 s.gr.1 s.gr.2)).put 8 (.float .f32 s.loss)).put 9 (.slice (some ⟨g, 0, none⟩) s.bs.length d)); obtain ⟨U, hUe⟩ : ∃ U, U = ((((w5.setCell ⟨w.heap.size, 6, none⟩ (.int .i64 e.n)).setCell ⟨w.heap.size, 7, none⟩ (.complex .f32 s.gr.1 s.gr.2)).setCell ⟨w.heap.size, 8, none⟩ (.float .f32 s.loss)).setCell ⟨w.heap.size, 9, none⟩ (.slice (some ⟨g, 0, none⟩) s.bs.length d)) := ⟨_, rfl⟩; rw [← hUe] at h; rw [← hUe]; clear hUe; replace lx := h.lt
    replace h := h.as { s with mir := e.n, bs := s.bs.map (mirBd e.n) } rfl rfl rfl
    have a0 := h.cx 0 _ rfl; have a1 := h.cx 1 _ rfl; have a2 := h.cx 2 _ rfl; have a3 := h.cx 3 _ rfl; have a4 := h.cx 4 _ rfl; have a5 := h.cx 5 _ rfl; have a6 := h.cx 6 _ rfl; have a7 := h.cx 7 _ rfl; have a8 := h.cx 8 _ rfl; have a9 := h.cx 9 _ rfl; have a10 := h.cx 10 _ rfl; have a11 := h.cx 11 _ rfl
    have o0 := h.co 0 _ rfl; have o1 := h.co 1 _ rfl; have o2 := h.co 2 _ rfl; have o3 := h.co 3 _ rfl; have o4 := h.co 4 _ rfl; have o5 := h.co 5 _ rfl; have o6 := h.co 6 _ rfl; have o7 := h.co 7 _ rfl; have o8 := h.co 8 _ rfl; have o9 := h.co 9 _ rfl; have o10 := h.co 10 _ rfl; have o11 := h.co 11 _ rfl
    have fo : FA _ (w.heap.size + 1 + 1) := h.fo
    have g0 := fo 0; have g1 := fo 1; have g2 := fo 2; have g3 := fo 3; have g4 := fo 4; have g5 := fo 5; have g6 := fo 6; have g7 := fo 7; have g8 := fo 8; have g9 := fo 9; have g10 := fo 10; have g11 := fo 11
    have lx := h.lt
    go_wp2
    have hz := ((((((((((((h.puto 0 (.int .i64 (({ s with mir := e.n, bs := s.bs.map (mirBd e.n) } : Shw)).sz)).puto 1 (.float .f32 (({ s with mir := e.n, bs := s.bs.map (mirBd e.n) } : Shw)).st)).puto 2 (.float .f32 (({ s with mir := e.n, bs := s.bs.map (mirBd e.n) } : Shw)).li.1)).puto 3 (.float .f32 (({ s with mir := e.n, bs := s.bs.map (mirBd e.n) } : Shw)).li.2.1)).puto 4 (.float .f32 (({ s with mir := e.n, bs := s.bs.map (mirBd e.n) } : Shw)).li.2.2)).puto 5 (.slice A s.sh.length c)).puto 6 (.int .i64 (({ s with mir := e.n, bs := s.bs.map (mirBd e.n) } : Shw)).mir)).puto 7 (.complex .f32 (({ s with mir := e.n, bs := s.bs.map (mirBd e.n) } : Shw)).gr.1 (({ s with mir := e.n, bs := s.bs.map (mirBd e.n) } : Shw)).gr.2)).puto 8 (.float .f32 (({ s with mir := e.n, bs := s.bs.map (mirBd e.n) } : Shw)).loss)).puto 9 (.slice (some ⟨g, 0, none⟩) s.bs.length d)).puto 10 (.int .i64 (({ s with mir := e.n, bs := s.bs.map (mirBd e.n) } : Shw)).tk)).puto 11 (.slice L s.log.length q))
    have co : CA _ (w.heap.size + 1 + 1) _ := hz.co
    have own := hz.own
    have bel := hz.bel
    have hin := And.intro hz.iA (And.intro hz.iB hz.iL)
    clear hz
    have z0 := co 0 _ rfl; have z1 := co 1 _ rfl; have z2 := co 2 _ rfl; have z3 := co 3 _ rfl; have z4 := co 4 _ rfl; have z5 := co 5 _ rfl; have z6 := co 6 _ rfl; have z7 := co 7 _ rfl; have z8 := co 8 _ rfl; have z9 := co 9 _ rfl; have z10 := co 10 _ rfl; have z11 := co 11 _ rfl
    refine bodyPost_ret (v := .tuple #[.agg #[.int .i64 (({ s with mir := e.n, bs := s.bs.map (mirBd e.n) } : Shw)).sz, .float .f32 (({ s with mir := e.n, bs := s.bs.map (mirBd e.n) } : Shw)).st, .float .f32 (({ s with mir := e.n, bs := s.bs.map (mirBd e.n) } : Shw)).li.1, .float .f32 (({ s with mir := e.n, bs := s.bs.map (mirBd e.n) } : Shw)).li.2.1, .float .f32 (({ s with mir := e.n, bs := s.bs.map (mirBd e.n) } : Shw)).li.2.2, .slice A s.sh.length c, .int .i64 (({ s with mir := e.n, bs := s.bs.map (mirBd e.n) } : Shw)).mir, .complex .f32 (({ s with mir := e.n, bs := s.bs.map (mirBd e.n) } : Shw)).gr.1 (({ s with mir := e.n, bs := s.bs.map (mirBd e.n) } : Shw)).gr.2, .float .f32 (({ s with mir := e.n, bs := s.bs.map (mirBd e.n) } : Shw)).loss, .slice (some ⟨g, 0, none⟩) s.bs.length d, .int .i64 (({ s with mir := e.n, bs := s.bs.map (mirBd e.n) } : Shw)).tk, .slice L s.log.length q], .bool true]) (by simp [results, Tryz.results100, go_sem, z0, z1, z2, z3, z4, z5, z6, z7, z8, z9, z10, z11]) rfl ⟨?_, bel⟩
    exact sHap_yes (t := { s with mir := e.n, bs := s.bs.map (mirBd e.n) }) own hin (by simp) rfl HT.out
end Go.Proofs.YthlphmojldbpkaaGreat

/- l6Do: the specification's, ticks pass. -/
namespace Go.Proofs.YthlphmojldbpkaaGreat
open Go.RowKit
attribute [local go_sem] run_store_float run_store_complex



set_option maxRecDepth 100000 in
set_option maxHeartbeats 4000000 in
theorem sDo_wait (s : Shw) (e : Ev) (i : Nat) (he : e = .wait (i : Int)) (hi : i ≤ 1000) (hg : Good s) (ht : tumB s.mir s.gr s.loss s.bs = true) (t0 : 0 ≤ s.tk) (t1 : s.tk ≤ 1000) (hm : s.bs.length ≤ 8) (A B L : Option Addr) (c d q base : Nat) (w : World) (hb : base ≤ w.heap.size) (own : OwnS w base s A B L c d q) :
    Calls Tryz.prog 100 #[.agg #[.int .i64 s.sz, .float .f32 s.st, .float .f32 s.li.1, .float .f32 s.li.2.1, .float .f32 s.li.2.2, .slice A s.sh.length c, .int .i64 s.mir, .complex .f32 s.gr.1 s.gr.2, .float .f32 s.loss, .slice B s.bs.length d, .int .i64 s.tk, .slice L s.log.length q], .agg #[.int .i64 e.k, .int .i64 e.n, .complex .f32 e.z.1 e.z.2, .complex .f32 e.s.1.1 e.s.1.2, .complex .f32 e.s.2.1.1 e.s.2.1.2, .complex .f32 e.s.2.2.1.1 e.s.2.2.1.2, .float .f32 e.s.2.2.2.1.1, .float .f32 e.s.2.2.2.1.2.1, .float .f32 e.s.2.2.2.1.2.2, .float .f32 e.s.2.2.2.2, .float .f32 e.c.1, .float .f32 e.c.2.1, .float .f32 e.c.2.2]] w fun r w' => SHap s e base (OwnB s A B L c d q) w.heap.size r w' ∧ BelF base (OwnB s A B L c d q) w w' := by
  have k1 : (e.k == 1) = false := by rw [he]; rfl
  have k2 : (e.k == 2) = false := by rw [he]; rfl
  have k3 : (e.k == 3) = false := by rw [he]; rfl
  have k4 : (e.k == 4) = false := by rw [he]; rfl
  have k5 : (e.k == 5) = false := by rw [he]; rfl
  have k6 : (e.k == 6) = false := by rw [he]; rfl
  have k7 : (e.k == 7) = true := by rw [he]; rfl
  have en : e.n = (i : Int) := by rw [he]; rfl
  have hw : hap s e = waitS s i := by rw [he]; rfl
  have EN := Lib.hid en
  have HW := Lib.hid hw
  have GD := Lib.hid hg
  have TU := Lib.hid ht
  have KW := Lib.hid (fun (w : World) (r : Rd bdC 2 w w.heap.size B s.bs.length s.bs) => specWait_any s i hi hg ht t0 t1 A B L s.sh.length c d s.log.length q w hm r)
  clear he hw en hg ht hm t0 t1
  have OWN := Lib.hid own
  clear own
  go_enter Tryz.func100, Tryz.ntmps100
  go_upto_region 1 with fail
  have h := hs_new e hb OWN.out #[.int .i64 s.sz, .float .f32 s.st, .float .f32 s.li.1, .float .f32 s.li.2.1, .float .f32 s.li.2.2, .slice A s.sh.length c, .int .i64 s.mir, .complex .f32 s.gr.1 s.gr.2, .float .f32 s.loss, .slice B s.bs.length d, .int .i64 s.tk, .slice L s.log.length q] #[.int .i64 0, .float .f32 0, .float .f32 0, .float .f32 0, .float .f32 0, .slice none 0 0, .int .i64 0, .complex .f32 0 0, .float .f32 0, .slice none 0 0, .int .i64 0, .slice none 0 0] 34 38 34 rfl rfl #[.int .i64 e.k, .int .i64 e.n, .complex .f32 e.z.1 e.z.2, .complex .f32 e.s.1.1 e.s.1.2, .complex .f32 e.s.2.1.1 e.s.2.1.2, .complex .f32 e.s.2.2.1.1 e.s.2.2.1.2, .float .f32 e.s.2.2.2.1.1, .float .f32 e.s.2.2.2.1.2.1, .float .f32 e.s.2.2.2.1.2.2, .float .f32 e.s.2.2.2.2, .float .f32 e.c.1, .float .f32 e.c.2.1, .float .f32 e.c.2.2] rfl
  obtain ⟨W, hWe⟩ : ∃ W, W = ((w.alloc (Obj.cells #[.int .i64 s.sz, .float .f32 s.st, .float .f32 s.li.1, .float .f32 s.li.2.1, .float .f32 s.li.2.2, .slice A s.sh.length c, .int .i64 s.mir, .complex .f32 s.gr.1 s.gr.2, .float .f32 s.loss, .slice B s.bs.length d, .int .i64 s.tk, .slice L s.log.length q] 34)).alloc (Obj.cells #[.int .i64 e.k, .int .i64 e.n, .complex .f32 e.z.1 e.z.2, .complex .f32 e.s.1.1 e.s.1.2, .complex .f32 e.s.2.1.1 e.s.2.1.2, .complex .f32 e.s.2.2.1.1 e.s.2.2.1.2, .float .f32 e.s.2.2.2.1.1, .float .f32 e.s.2.2.2.1.2.1, .float .f32 e.s.2.2.2.1.2.2, .float .f32 e.s.2.2.2.2, .float .f32 e.c.1, .float .f32 e.c.2.1, .float .f32 e.c.2.2] 38)).alloc (Obj.cells #[.int .i64 0, .float .f32 0, .float .f32 0, .float .f32 0, .float .f32 0, .slice none 0 0, .int .i64 0, .complex .f32 0 0, .float .f32 0, .slice none 0 0, .int .i64 0, .slice none 0 0] 34) := ⟨_, rfl⟩
  rw [← hWe] at h
  rw [← hWe]
  clear hWe hb OWN
  have lx := h.lt
  have a0 := h.cx 0 _ rfl; have a1 := h.cx 1 _ rfl; have a2 := h.cx 2 _ rfl; have a3 := h.cx 3 _ rfl; have a4 := h.cx 4 _ rfl; have a5 := h.cx 5 _ rfl; have a6 := h.cx 6 _ rfl; have a7 := h.cx 7 _ rfl; have a8 := h.cx 8 _ rfl; have a9 := h.cx 9 _ rfl; have a10 := h.cx 10 _ rfl; have a11 := h.cx 11 _ rfl
  have y0 := h.cy 0 _ rfl; have y1 := h.cy 1 _ rfl; have y2 := h.cy 2 _ rfl; have y3 := h.cy 3 _ rfl; have y4 := h.cy 4 _ rfl; have y5 := h.cy 5 _ rfl; have y6 := h.cy 6 _ rfl; have y7 := h.cy 7 _ rfl; have y8 := h.cy 8 _ rfl; have y9 := h.cy 9 _ rfl; have y10 := h.cy 10 _ rfl; have y11 := h.cy 11 _ rfl; have y12 := h.cy 12 _ rfl
  rw [EN.out] at y1
  have R := Lib.hid h.own.rd.2.1
  go_upto_region 3 with fail
  go_wp2_with fail
  (with_reducible refine (KW.out _ R.out).mono ?_)
  rintro r w5 ⟨⟨k, u, B1, d1, hk, hu, rfl, hbd⟩, hb⟩
  obtain ⟨_, _, e1, e2, e3, e4, e5, e6, e7, e8, e9, e10⟩ := waitS_inv GD.out TU.out hk
  have h5 : HS w (OwnB s A B L c d q) base w.heap.size e (shwL s A B L s.sh.length c s.bs.length d s.log.length q) shw0 u A B1 L c d1 q w5 := by
    rcases hbd with ⟨rfl, rfl, e0⟩ | ho
    · exact (h.below_ hb).as u e4 e0 e10
    · exact (h.newB hb ho rfl).as u e4 rfl e10
  have EL := Lib.hid (And.intro e4 e10)
  have HU := Lib.hid hu
  clear a0 a1 a2 a3 a4 a5 a6 a7 a8 a9 a10 a11 y0 y1 y2 y3 y4 y5 y6 y7 y8 y9 y10 y11 y12 h R hb hbd hk hu KW e1 e2 e3 e4 e5 e6 e7 e8 e9 e10
  have o0 := h5.co 0 _ rfl; have o1 := h5.co 1 _ rfl; have o2 := h5.co 2 _ rfl; have o3 := h5.co 3 _ rfl; have o4 := h5.co 4 _ rfl; have o5 := h5.co 5 _ rfl; have o6 := h5.co 6 _ rfl; have o7 := h5.co 7 _ rfl; have o8 := h5.co 8 _ rfl; have o9 := h5.co 9 _ rfl; have o10 := h5.co 10 _ rfl; have o11 := h5.co 11 _ rfl
  have fo : FA _ (w.heap.size + 1 + 1) := h5.fo
  have g0 := fo 0; have g1 := fo 1; have g2 := fo 2; have g3 := fo 3; have g4 := fo 4; have g5 := fo 5; have g6 := fo 6; have g7 := fo 7; have g8 := fo 8; have g9 := fo 9; have g10 := fo 10; have g11 := fo 11
  have lx := h5.lt
  go_wp2
  have hz := ((((((((((((h5.puto 0 (.int .i64 u.sz)).puto 1 (.float .f32 u.st)).puto 2 (.float .f32 u.li.1)).puto 3 (.float .f32 u.li.2.1)).puto 4 (.float .f32 u.li.2.2)).puto 5 (.slice A s.sh.length c)).puto 6 (.int .i64 u.mir)).puto 7 (.complex .f32 u.gr.1 u.gr.2)).puto 8 (.float .f32 u.loss)).puto 9 (.slice B1 u.bs.length d1)).puto 10 (.int .i64 u.tk)).puto 11 (.slice L s.log.length q))
  have co : CA _ (w.heap.size + 1 + 1) _ := hz.co
  have own := hz.own
  have bel := hz.bel
  have hin := And.intro hz.iA (And.intro hz.iB hz.iL)
  clear hz
  have z0 := co 0 _ rfl; have z1 := co 1 _ rfl; have z2 := co 2 _ rfl; have z3 := co 3 _ rfl; have z4 := co 4 _ rfl; have z5 := co 5 _ rfl; have z6 := co 6 _ rfl; have z7 := co 7 _ rfl; have z8 := co 8 _ rfl; have z9 := co 9 _ rfl; have z10 := co 10 _ rfl; have z11 := co 11 _ rfl
  refine bodyPost_ret (v := .tuple #[.agg #[.int .i64 u.sz, .float .f32 u.st, .float .f32 u.li.1, .float .f32 u.li.2.1, .float .f32 u.li.2.2, .slice A s.sh.length c, .int .i64 u.mir, .complex .f32 u.gr.1 u.gr.2, .float .f32 u.loss, .slice B1 u.bs.length d1, .int .i64 u.tk, .slice L s.log.length q], .bool (waitS s i).isSome]) (by simp [results, Tryz.results100, go_sem, z0, z1, z2, z3, z4, z5, z6, z7, z8, z9, z10, z11]) rfl ⟨?_, bel⟩
  exact sHap_mk (t := u) own hin (by rw [EL.out.1, EL.out.2]) (by rw [HW.out]) (by rw [EL.out.2]) (fun t ht => (HU.out t (by rw [← HW.out]; exact ht)).symm)
end Go.Proofs.YthlphmojldbpkaaGreat

/- l6Do: the specification's, all events. -/
namespace Go.Proofs.YthlphmojldbpkaaGreat
open Go.RowKit

theorem sDo_any (s : Shw) (e : Ev) (A B L : Option Addr) (c d q base : Nat) (w : World) (hg : Good s) (hk : okS s = true) (hev : evG e = true) (he : evR e = true) (hb : base ≤ w.heap.size) (own : OwnS w base s A B L c d q) :
    Calls Tryz.prog 100 #[.agg #[.int .i64 s.sz, .float .f32 s.st, .float .f32 s.li.1, .float .f32 s.li.2.1, .float .f32 s.li.2.2, .slice A s.sh.length c, .int .i64 s.mir, .complex .f32 s.gr.1 s.gr.2, .float .f32 s.loss, .slice B s.bs.length d, .int .i64 s.tk, .slice L s.log.length q], .agg #[.int .i64 e.k, .int .i64 e.n, .complex .f32 e.z.1 e.z.2, .complex .f32 e.s.1.1 e.s.1.2, .complex .f32 e.s.2.1.1 e.s.2.1.2, .complex .f32 e.s.2.2.1.1 e.s.2.2.1.2, .float .f32 e.s.2.2.2.1.1, .float .f32 e.s.2.2.2.1.2.1, .float .f32 e.s.2.2.2.1.2.2, .float .f32 e.s.2.2.2.2, .float .f32 e.c.1, .float .f32 e.c.2.1, .float .f32 e.c.2.2]] w fun r w' => SHap s e base (OwnB s A B L c d q) w.heap.size r w' ∧ BelF base (OwnB s A B L c d q) w w' := by
  obtain ⟨p1, p2, p3, p4⟩ := okS_parts.1 hk
  obtain ⟨t0, t1⟩ := inB_true p3
  have hl := hg.len
  cases e with
  | add x z => exact sDo_add s _ x z rfl hg hev (by omega) (by omega) A B L c d q base w hb own
  | light cl => exact sDo_light s _ cl rfl A B L c d q base w hb own
  | gravity z => exact sDo_gravity s _ z rfl A B L c d q base w hb own
  | mirrors n => exact sDo_mirrors s (.mirrors n) rfl he hg hk (by omega) A B L c d q base w hb own
  | take n =>
    simp only [evR] at he
    obtain ⟨n0, n7⟩ := inB_true he
    by_cases hn : n < (s.bs.length : Int)
    · obtain ⟨i, rfl⟩ : ∃ i : Nat, n = (i : Int) := ⟨n.toNat, by omega⟩
      exact sDo_take s _ i rfl (by omega) hl (by omega) A B L c d q base w hb own
    · exact sDo_none2 s (.take n) rfl rfl hn (by simp only [hap]; rw [if_neg hn]) A B L c d q base w hb own
  | push n z =>
    simp only [evR] at he
    obtain ⟨n0, n7⟩ := inB_true he
    by_cases hn : n < (s.bs.length : Int)
    · obtain ⟨i, rfl⟩ : ∃ i : Nat, n = (i : Int) := ⟨n.toNat, by omega⟩
      exact sDo_push s _ i z rfl (by omega) (by omega) A B L c d q base w hb own
    · exact sDo_none6 s (.push n z) rfl rfl rfl rfl rfl rfl hn (by simp only [hap]; rw [if_neg hn]) A B L c d q base w hb own
  | wait n =>
    simp only [evR] at he
    obtain ⟨n1, n2⟩ := inB_true he
    obtain ⟨i, rfl⟩ : ∃ i : Nat, n = (i : Int) := ⟨n.toNat, by omega⟩
    exact sDo_wait s _ i rfl (by omega) hg (ok_tum hg hk) t0 (by omega) p1 A B L c d q base w hb own
end Go.Proofs.YthlphmojldbpkaaGreat
