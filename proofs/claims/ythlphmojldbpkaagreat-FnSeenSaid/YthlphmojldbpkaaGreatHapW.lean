
/- happen: the program's, ticks pass. -/
import Derived.Test.YthlphmojldbpkaaGreatM8
import Derived.Test.YthlphmojldbpkaaGreatM3
import Derived.Deep.QuietTactic
import Derived.BigQuiet
namespace Go.Proofs.YthlphmojldbpkaaGreat
open Go.RowKit
attribute [local go_sem] run_store_float run_store_complex




set_option maxRecDepth 100000 in
set_option maxHeartbeats 4000000 in
theorem happen_wait (s : Shw) (e : Ev) (i : Nat) (he : e = .wait (i : Int)) (hi : i ≤ 1000) (hg : Good s) (ht : tumB s.mir s.gr s.loss s.bs = true) (t0 : 0 ≤ s.tk) (t1 : s.tk ≤ 1000) (A B L : Option Addr) (c d q base : Nat) (w : World) (hb : base ≤ w.heap.size) (hm : s.bs.length ≤ 8) (hp : s.log.length ≤ 1000) (own : OwnS w base s A B L c d q) :
    Calls Tryz.prog 33 #[.agg #[.int .i64 s.sz, .float .f32 s.st, .float .f32 s.li.1, .float .f32 s.li.2.1, .float .f32 s.li.2.2, .slice A s.sh.length c, .int .i64 s.mir, .complex .f32 s.gr.1 s.gr.2, .float .f32 s.loss, .slice B s.bs.length d, .int .i64 s.tk, .slice L s.log.length q], .agg #[.int .i64 e.k, .int .i64 e.n, .complex .f32 e.z.1 e.z.2, .complex .f32 e.s.1.1 e.s.1.2, .complex .f32 e.s.2.1.1 e.s.2.1.2, .complex .f32 e.s.2.2.1.1 e.s.2.2.1.2, .float .f32 e.s.2.2.2.1.1, .float .f32 e.s.2.2.2.1.2.1, .float .f32 e.s.2.2.2.1.2.2, .float .f32 e.s.2.2.2.2, .float .f32 e.c.1, .float .f32 e.c.2.1, .float .f32 e.c.2.2]] w fun r w' => HapI s e base (OwnB s A B L c d q) w.heap.size r w' ∧ BelF base (OwnB s A B L c d q) w w' := by
  have k1 : (e.k == 1) = false := by rw [he]; rfl
  have k2 : (e.k == 2) = false := by rw [he]; rfl
  have k3 : (e.k == 3) = false := by rw [he]; rfl
  have k4 : (e.k == 4) = false := by rw [he]; rfl
  have k5 : (e.k == 5) = false := by rw [he]; rfl
  have k6 : (e.k == 6) = false := by rw [he]; rfl
  have k7 : (e.k == 7) = true := by rw [he]; rfl
  have en : e.n = (i : Int) := by rw [he]; rfl
  have hw : hap s e = waitS s i := by rw [he]; rfl
  have EN := Lib.hid en
  have HW := Lib.hid hw
  have OWN := Lib.hid own
  have GD := Lib.hid hg
  have TU := Lib.hid ht
  have MM := Lib.hid hm
  have T0 := Lib.hid t0
  have T1 := Lib.hid t1
  clear own he hw en hg ht hm t0 t1
  go_enter Tryz.func33, Tryz.ntmps33
  go_upto_region 1 with fail
  have h := hs_new e hb OWN.out #[.int .i64 s.sz, .float .f32 s.st, .float .f32 s.li.1, .float .f32 s.li.2.1, .float .f32 s.li.2.2, .slice A s.sh.length c, .int .i64 s.mir, .complex .f32 s.gr.1 s.gr.2, .float .f32 s.loss, .slice B s.bs.length d, .int .i64 s.tk, .slice L s.log.length q] #[.int .i64 0, .float .f32 0, .float .f32 0, .float .f32 0, .float .f32 0, .slice none 0 0, .int .i64 0, .complex .f32 0 0, .float .f32 0, .slice none 0 0, .int .i64 0, .slice none 0 0] 34 38 34 rfl rfl #[.int .i64 e.k, .int .i64 e.n, .complex .f32 e.z.1 e.z.2, .complex .f32 e.s.1.1 e.s.1.2, .complex .f32 e.s.2.1.1 e.s.2.1.2, .complex .f32 e.s.2.2.1.1 e.s.2.2.1.2, .float .f32 e.s.2.2.2.1.1, .float .f32 e.s.2.2.2.1.2.1, .float .f32 e.s.2.2.2.1.2.2, .float .f32 e.s.2.2.2.2, .float .f32 e.c.1, .float .f32 e.c.2.1, .float .f32 e.c.2.2] rfl
  obtain ⟨W, hWe⟩ : ∃ W, W = ((w.alloc (Obj.cells #[.int .i64 s.sz, .float .f32 s.st, .float .f32 s.li.1, .float .f32 s.li.2.1, .float .f32 s.li.2.2, .slice A s.sh.length c, .int .i64 s.mir, .complex .f32 s.gr.1 s.gr.2, .float .f32 s.loss, .slice B s.bs.length d, .int .i64 s.tk, .slice L s.log.length q] 34)).alloc (Obj.cells #[.int .i64 e.k, .int .i64 e.n, .complex .f32 e.z.1 e.z.2, .complex .f32 e.s.1.1 e.s.1.2, .complex .f32 e.s.2.1.1 e.s.2.1.2, .complex .f32 e.s.2.2.1.1 e.s.2.2.1.2, .float .f32 e.s.2.2.2.1.1, .float .f32 e.s.2.2.2.1.2.1, .float .f32 e.s.2.2.2.1.2.2, .float .f32 e.s.2.2.2.2, .float .f32 e.c.1, .float .f32 e.c.2.1, .float .f32 e.c.2.2] 38)).alloc (Obj.cells #[.int .i64 0, .float .f32 0, .float .f32 0, .float .f32 0, .float .f32 0, .slice none 0 0, .int .i64 0, .complex .f32 0 0, .float .f32 0, .slice none 0 0, .int .i64 0, .slice none 0 0] 34) := ⟨_, rfl⟩
  rw [← hWe] at h
  rw [← hWe]
  clear hWe hb OWN
  have lx := h.lt
  have a0 := h.cx 0 _ rfl; have a1 := h.cx 1 _ rfl; have a2 := h.cx 2 _ rfl; have a3 := h.cx 3 _ rfl; have a4 := h.cx 4 _ rfl; have a5 := h.cx 5 _ rfl; have a6 := h.cx 6 _ rfl; have a7 := h.cx 7 _ rfl; have a8 := h.cx 8 _ rfl; have a9 := h.cx 9 _ rfl; have a10 := h.cx 10 _ rfl; have a11 := h.cx 11 _ rfl
  have y0 := h.cy 0 _ rfl; have y1 := h.cy 1 _ rfl; have y2 := h.cy 2 _ rfl; have y3 := h.cy 3 _ rfl; have y4 := h.cy 4 _ rfl; have y5 := h.cy 5 _ rfl; have y6 := h.cy 6 _ rfl; have y7 := h.cy 7 _ rfl; have y8 := h.cy 8 _ rfl; have y9 := h.cy 9 _ rfl; have y10 := h.cy 10 _ rfl; have y11 := h.cy 11 _ rfl; have y12 := h.cy 12 _ rfl
  rw [EN.out] at y1
  go_upto_region 2 with fail
  go_quiet (fail)
  go_upto_region 27 with fail
  obtain ⟨V, hV⟩ : ∃ V, V = W.drewN nq := ⟨_, rfl⟩
  replace h := h.drew_ nq
  rw [← hV] at h
  rw [← hV]
  have HV := Lib.hid h
  have y1 := h.cy 1 _ rfl
  rw [EN.out] at y1
  clear h hV
  go_wp2_with fail
  go_loopw [171] (fun j wr => ∃ (k : Nat) (u : Shw) (B1 : Option Addr) (d1 : Nat), k ≤ i ∧ j = .int .i64 k ∧ waitS s k = some u ∧ HS w (OwnB s A B L c d q) base w.heap.size e (shwL u A B1 L u.sh.length c u.bs.length d1 u.log.length q) shw0 u A B1 L c d1 q wr) (fun j _ => i - (intOf j).toNat)
  case atStart => exact ⟨0, s, B, d, Nat.zero_le _, rfl, rfl, HV.out⟩
  case round =>
    clear a0 a1 a2 a3 a4 a5 a6 a7 a8 a9 a10 a11 y0 y1 y2 y3 y4 y5 y6 y7 y8 y9 y10 y11 y12 lx HV
    obtain ⟨k, u, B', d', hk, rfl, hu, h⟩ := hrel
    obtain ⟨gu, tu, e1, e2, e3, e4, e5, e6, e7, e8, e9, e10⟩ := waitS_inv GD.out TU.out hu
    by_cases hlt : k < i
    · have hki : (k : Int) < (i : Int) := by omega
      have hk0 : (0 : Int) ≤ (k : Int) := by omega
      have KS := Lib.hid (fun w h => stepTumble_any u.mir u.gr u.loss B' u.bs.length d' u.bs w (by have := MM.out; omega) tu h)
      have hwt : IntKind.i64.wrap (u.tk + 1) = u.tk + 1 := by have := T0.out; have := T1.out; rw [IntKind.wrap_i64] <;> omega
      have HU := Lib.hid hu
      have E9 := Lib.hid e9
      clear hu e1 e2 e3 e4 e5 e6 e7 e8 e9 e10 gu tu
      have a0 := h.cx 0 _ rfl; have a1 := h.cx 1 _ rfl; have a2 := h.cx 2 _ rfl; have a3 := h.cx 3 _ rfl; have a4 := h.cx 4 _ rfl; have a5 := h.cx 5 _ rfl; have a6 := h.cx 6 _ rfl; have a7 := h.cx 7 _ rfl; have a8 := h.cx 8 _ rfl; have a9 := h.cx 9 _ rfl; have a10 := h.cx 10 _ rfl; have a11 := h.cx 11 _ rfl
      have R := Lib.hid h.own.rd.2.1
      go_wp2_with fail
      (with_reducible refine (KS.out _ R.out).mono ?_)
      rintro r w5 ⟨hp5, hb⟩
      clear a0 a1 a2 a3 a4 a5 a6 a7 a8 a9 a10 a11
      cases hgo : allGo u.gr u.bs
      · obtain ⟨B5, m5, d5, rfl⟩ := hp5.2 hgo
        clear hp5 KS R
        have NO : hap s e = none := by
          rw [HW.out]
          exact waitS_no HU.out hgo hlt
        have HT := Lib.hid NO
        clear NO
        replace h := h.below_ hb
        clear hb
        go_upto_region 30 with fail
        replace h := h.alloc_ (Obj.cells #[.int .i64 u.mir, .complex .f32 u.gr.1 u.gr.2, .float .f32 u.loss, .slice B5 m5 d5] 31)
        obtain ⟨U, hU⟩ : ∃ U, U = w5.alloc (Obj.cells #[.int .i64 u.mir, .complex .f32 u.gr.1 u.gr.2, .float .f32 u.loss, .slice B5 m5 d5] 31) := ⟨_, rfl⟩
        rw [← hU] at h
        rw [← hU]
        clear hU
        have a0 := h.cx 0 _ rfl; have a1 := h.cx 1 _ rfl; have a2 := h.cx 2 _ rfl; have a3 := h.cx 3 _ rfl; have a4 := h.cx 4 _ rfl; have a5 := h.cx 5 _ rfl; have a6 := h.cx 6 _ rfl; have a7 := h.cx 7 _ rfl; have a8 := h.cx 8 _ rfl; have a9 := h.cx 9 _ rfl; have a10 := h.cx 10 _ rfl; have a11 := h.cx 11 _ rfl
        have o0 := h.co 0 _ rfl; have o1 := h.co 1 _ rfl; have o2 := h.co 2 _ rfl; have o3 := h.co 3 _ rfl; have o4 := h.co 4 _ rfl; have o5 := h.co 5 _ rfl; have o6 := h.co 6 _ rfl; have o7 := h.co 7 _ rfl; have o8 := h.co 8 _ rfl; have o9 := h.co 9 _ rfl; have o10 := h.co 10 _ rfl; have o11 := h.co 11 _ rfl
        have fo : FA U (w.heap.size + 1 + 1) := h.fo
        have g0 := fo 0; have g1 := fo 1; have g2 := fo 2; have g3 := fo 3; have g4 := fo 4; have g5 := fo 5; have g6 := fo 6; have g7 := fo 7; have g8 := fo 8; have g9 := fo 9; have g10 := fo 10; have g11 := fo 11
        have lx := h.lt
        go_wp2
        have hz := (((((((((((h.puto 0 (.int .i64 u.sz)).puto 1 (.float .f32 u.st)).puto 2 (.float .f32 u.li.1)).puto 3 (.float .f32 u.li.2.1)).puto 4 (.float .f32 u.li.2.2)).puto 5 (.slice A u.sh.length c)).puto 6 (.int .i64 u.mir)).puto 7 (.complex .f32 u.gr.1 u.gr.2)).puto 8 (.float .f32 u.loss)).puto 9 (.slice B' u.bs.length d')).puto 10 (.int .i64 u.tk)).puto 11 (.slice L u.log.length q)
        have co : CA _ (w.heap.size + 1 + 1) _ := hz.co
        have bel := hz.bel
        clear hz
        have z0 := co 0 _ rfl; have z1 := co 1 _ rfl; have z2 := co 2 _ rfl; have z3 := co 3 _ rfl; have z4 := co 4 _ rfl; have z5 := co 5 _ rfl; have z6 := co 6 _ rfl; have z7 := co 7 _ rfl; have z8 := co 8 _ rfl; have z9 := co 9 _ rfl; have z10 := co 10 _ rfl; have z11 := co 11 _ rfl
        refine bodyPost_ret (v := .tuple #[.agg #[.int .i64 u.sz, .float .f32 u.st, .float .f32 u.li.1, .float .f32 u.li.2.1, .float .f32 u.li.2.2, .slice A u.sh.length c, .int .i64 u.mir, .complex .f32 u.gr.1 u.gr.2, .float .f32 u.loss, .slice B' u.bs.length d', .int .i64 u.tk, .slice L u.log.length q], .bool false]) (by simp [results, Tryz.results33, go_sem, z0, z1, z2, z3, z4, z5, z6, z7, z8, z9, z10, z11]) rfl ⟨hapI_no HT.out rfl, bel⟩
      · obtain ⟨B5, d5, rfl, oB⟩ := hp5.1 hgo
        clear hp5 KS R
        have HGO := Lib.hid hgo
        have hll : u.bs.length = (goL u.mir u.gr u.loss u.bs).length := by simp [goL]
        have HLL := Lib.hid hll
        replace h := h.newB hb oB hll
        clear hb oB hll hgo
        go_upto_region 32 with fail
        replace h := h.alloc_ (Obj.cells #[.int .i64 u.mir, .complex .f32 u.gr.1 u.gr.2, .float .f32 u.loss, .slice B5 u.bs.length d5] 31)
        have cb := CA.new w5 #[.int .i64 u.mir, .complex .f32 u.gr.1 u.gr.2, .float .f32 u.loss, .slice B5 u.bs.length d5] 31
        obtain ⟨U, hU⟩ : ∃ U, U = w5.alloc (Obj.cells #[.int .i64 u.mir, .complex .f32 u.gr.1 u.gr.2, .float .f32 u.loss, .slice B5 u.bs.length d5] 31) := ⟨_, rfl⟩
        rw [← hU] at h cb
        rw [← hU]
        clear hU
        have a0 := h.cx 0 _ rfl; have a1 := h.cx 1 _ rfl; have a2 := h.cx 2 _ rfl; have a3 := h.cx 3 _ rfl; have a4 := h.cx 4 _ rfl; have a5 := h.cx 5 _ rfl; have a6 := h.cx 6 _ rfl; have a7 := h.cx 7 _ rfl; have a8 := h.cx 8 _ rfl; have a9 := h.cx 9 _ rfl; have a10 := h.cx 10 _ rfl; have a11 := h.cx 11 _ rfl
        have b0 := cb 0 _ rfl; have b1 := cb 1 _ rfl; have b2 := cb 2 _ rfl; have b3 := cb 3 _ rfl
        have f0 := h.fx 0; have f1 := h.fx 1; have f2 := h.fx 2; have f3 := h.fx 3; have f4 := h.fx 4; have f5 := h.fx 5; have f6 := h.fx 6; have f7 := h.fx 7; have f8 := h.fx 8; have f9 := h.fx 9; have f10 := h.fx 10; have f11 := h.fx 11
        have lx := h.lt
        go_wp2_with fail
        go_roundw
        case rel =>
          refine ⟨k + 1, tickS u, B5, d5, by omega, by go_num, waitS_succ HU.out HGO.out, ?_⟩
          have hr := (((((h.put 6 (.int .i64 u.mir)).put 7 (.complex .f32 u.gr.1 u.gr.2)).put 8 (.float .f32 u.loss)).put 9 (.slice B5 u.bs.length d5)).put 10 (.int .i64 (u.tk + 1))).as (tickS u) rfl rfl rfl
          have hl : shwL (tickS u) A B5 L (tickS u).sh.length c (tickS u).bs.length d5 (tickS u).log.length q = (((((shwL u A B' L u.sh.length c u.bs.length d' u.log.length q).set 6 (.int .i64 u.mir)).set 7 (.complex .f32 u.gr.1 u.gr.2)).set 8 (.float .f32 u.loss)).set 9 (.slice B5 u.bs.length d5)).set 10 (.int .i64 (u.tk + 1)) := by
            show shwL (tickS u) A B5 L u.sh.length c (goL u.mir u.gr u.loss u.bs).length d5 u.log.length q = _
            rw [← HLL.out]
            rfl
          rw [hl]
          exact hr
        case measure => simp [intOf]; omega
    · obtain rfl : k = i := by omega
      have HT := Lib.hid (show hap s e = some u by rw [HW.out]; exact hu)
      have hp : u.log.length ≤ 1000 := by rw [e10]; exact hp
      obtain ⟨U, hU⟩ : ∃ U, U = wr := ⟨_, rfl⟩
      rw [← hU] at h
      rw [← hU]
      clear hU e1 e2 e3 e4 e5 e6 e7 e8 e9 e10 gu tu hu
      have lx := h.lt
      go_upto_region 35 with fail
      obtain ⟨i0, hi, hz0, hz1, hz2⟩ := info_parts infoEv
      have OL : Hid (U.ownsRow base 38 13 (.slice L u.log.length q) u.log.length (flat evC u.log)) := Lib.hid h.own.2.2.1
      have HSL := Lib.hid h
      have a0 := h.cx 0 _ rfl; have a1 := h.cx 1 _ rfl; have a2 := h.cx 2 _ rfl; have a3 := h.cx 3 _ rfl; have a4 := h.cx 4 _ rfl; have a5 := h.cx 5 _ rfl; have a6 := h.cx 6 _ rfl; have a7 := h.cx 7 _ rfl; have a8 := h.cx 8 _ rfl; have a9 := h.cx 9 _ rfl; have a10 := h.cx 10 _ rfl; have a11 := h.cx 11 _ rfl
      have y0 := h.cy 0 _ rfl; have y1 := h.cy 1 _ rfl; have y2 := h.cy 2 _ rfl; have y3 := h.cy 3 _ rfl; have y4 := h.cy 4 _ rfl; have y5 := h.cy 5 _ rfl; have y6 := h.cy 6 _ rfl; have y7 := h.cy 7 _ rfl; have y8 := h.cy 8 _ rfl; have y9 := h.cy 9 _ rfl; have y10 := h.cy 10 _ rfl; have y11 := h.cy 11 _ rfl; have y12 := h.cy 12 _ rfl
      have bx : base ≤ w.heap.size := h.bx
      go_wp2_with (at_builtin; refine wpList_append_own_at _ rfl _ _ 32 rfl base 38 i0 (.agg #[.int .i64 0, .int .i64 0, .complex .f32 0 0, .complex .f32 0 0, .complex .f32 0 0, .complex .f32 0 0, .float .f32 0, .float .f32 0, .float .f32 0, .float .f32 0, .float .f32 0, .float .f32 0, .float .f32 0]) 13 80 Tryz.underlying32 hi hz0 hz1 hz2 rfl (by decide) _ _ _ rfl (OL.out.alloc _) ⟨U.heap.size, 0, none⟩ 1 1 (evC e) rfl rfl ?c1 ?c2 ?c3 ?c4 ?c5 ?_; (case c1 => exact World.news_of_block (cs := #[.int .i64 e.k, .int .i64 e.n, .complex .f32 e.z.1 e.z.2, .complex .f32 e.s.1.1 e.s.1.2, .complex .f32 e.s.2.1.1 e.s.2.1.2, .complex .f32 e.s.2.2.1.1 e.s.2.2.1.2, .float .f32 e.s.2.2.2.1.1, .float .f32 e.s.2.2.2.1.2.1, .float .f32 e.s.2.2.2.1.2.2, .float .f32 e.s.2.2.2.2, .float .f32 e.c.1, .float .f32 e.c.2.1, .float .f32 e.c.2.2]) (t := 38) (fr := (0, 0)) (heap_alloc_new U _)); (case c2 => simp [evC, Value.oneCell']); (case c3 => unfold maxLen; omega); (case c4 => omega); (case c5 => simp only [World.size_alloc]; omega); intro v3 w3 hown3 hg3 hne3 hat3; obtain ⟨L3, q3, rfl, h3⟩ := HSL.out.appL _ e hown3 hg3 hat3; have H3 := Lib.hid h3; have a0 := h3.cx 0 _ rfl; have a1 := h3.cx 1 _ rfl; have a2 := h3.cx 2 _ rfl; have a3 := h3.cx 3 _ rfl; have a4 := h3.cx 4 _ rfl; have a5 := h3.cx 5 _ rfl; have a6 := h3.cx 6 _ rfl; have a7 := h3.cx 7 _ rfl; have a8 := h3.cx 8 _ rfl; have a9 := h3.cx 9 _ rfl; have a10 := h3.cx 10 _ rfl; have a11 := h3.cx 11 _ rfl; have f0 := h3.fx 0; have f1 := h3.fx 1; have f2 := h3.fx 2; have f3 := h3.fx 3; have f4 := h3.fx 4; have f5 := h3.fx 5; have f6 := h3.fx 6; have f7 := h3.fx 7; have f8 := h3.fx 8; have f9 := h3.fx 9; have f10 := h3.fx 10; have f11 := h3.fx 11; have o0 := h3.co 0 _ rfl; have o1 := h3.co 1 _ rfl; have o2 := h3.co 2 _ rfl; have o3 := h3.co 3 _ rfl; have o4 := h3.co 4 _ rfl; have o5 := h3.co 5 _ rfl; have o6 := h3.co 6 _ rfl; have o7 := h3.co 7 _ rfl; have o8 := h3.co 8 _ rfl; have o9 := h3.co 9 _ rfl; have o10 := h3.co 10 _ rfl; have o11 := h3.co 11 _ rfl; have fo : FA w3 (w.heap.size + 1 + 1) := h3.fo; have g0 := fo 0; have g1 := fo 1; have g2 := fo 2; have g3 := fo 3; have g4 := fo 4; have g5 := fo 5; have g6 := fo 6; have g7 := fo 7; have g8 := fo 8; have g9 := fo 9; have g10 := fo 10; have g11 := fo 11; have lx := h3.lt; clear HSL hown3 hg3 hne3 hat3 h3 fo)
      have hz := ((((((((((((H3.out.put 11 (.slice L3 (u.log.length + 1) q3)).puto 0 (.int .i64 (u).sz)).puto 1 (.float .f32 (u).st)).puto 2 (.float .f32 (u).li.1)).puto 3 (.float .f32 (u).li.2.1)).puto 4 (.float .f32 (u).li.2.2)).puto 5 (.slice A u.sh.length c)).puto 6 (.int .i64 (u).mir)).puto 7 (.complex .f32 (u).gr.1 (u).gr.2)).puto 8 (.float .f32 (u).loss)).puto 9 (.slice B' u.bs.length d')).puto 10 (.int .i64 (u).tk)).puto 11 (.slice L3 (u.log.length + 1) q3)
      have co : CA _ (w.heap.size + 1 + 1) _ := hz.co
      have own := hz.own
      have bel := hz.bel
      have hin := And.intro hz.iA (And.intro hz.iB hz.iL)
      clear hz H3
      have z0 := co 0 _ rfl; have z1 := co 1 _ rfl; have z2 := co 2 _ rfl; have z3 := co 3 _ rfl; have z4 := co 4 _ rfl; have z5 := co 5 _ rfl; have z6 := co 6 _ rfl; have z7 := co 7 _ rfl; have z8 := co 8 _ rfl; have z9 := co 9 _ rfl; have z10 := co 10 _ rfl; have z11 := co 11 _ rfl
      refine bodyPost_ret (v := .tuple #[.agg #[.int .i64 (u).sz, .float .f32 (u).st, .float .f32 (u).li.1, .float .f32 (u).li.2.1, .float .f32 (u).li.2.2, .slice A u.sh.length c, .int .i64 (u).mir, .complex .f32 (u).gr.1 (u).gr.2, .float .f32 (u).loss, .slice B' u.bs.length d', .int .i64 (u).tk, .slice L3 (u.log.length + 1) q3], .bool true]) (by simp [results, Tryz.results33, go_sem, z0, z1, z2, z3, z4, z5, z6, z7, z8, z9, z10, z11]) rfl ⟨hapI_yes (t := u) ?_ own hin (rfl), bel⟩
      exact HT.out
end Go.Proofs.YthlphmojldbpkaaGreat
