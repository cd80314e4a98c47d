
/- happen: the program's, other mirrors. -/
import Derived.Test.YthlphmojldbpkaaGreatM8
import Derived.Test.YthlphmojldbpkaaGreatM3
import Derived.Deep.QuietTactic
import Derived.BigQuiet
namespace Go.Proofs.YthlphmojldbpkaaGreat
open Go.RowKit
attribute [local go_sem] run_store_float run_store_complex




theorem mixL_get {α : Type} {ys xs : List α} {k : Nat} (h : ys.length = xs.length) (hk : k < xs.length) : (mixL ys xs k)[k]? = xs[k]? := by
  unfold mixL
  have ht : (ys.take k).length = k := by rw [List.length_take]; omega
  rw [List.getElem?_append_right (by omega), ht, Nat.sub_self, List.getElem?_drop, Nat.add_zero]
set_option maxRecDepth 100000 in
set_option maxHeartbeats 4000000 in
theorem happen_mirrors (s : Shw) (e : Ev) (he : e = .mirrors e.n) (A B L : Option Addr) (c d q base : Nat) (w : World) (hb : base ≤ w.heap.size) (hm : s.bs.length ≤ 1000) (hp : s.log.length ≤ 1000) (own : OwnS w base s A B L c d q) :
    Calls Tryz.prog 33 #[.agg #[.int .i64 s.sz, .float .f32 s.st, .float .f32 s.li.1, .float .f32 s.li.2.1, .float .f32 s.li.2.2, .slice A s.sh.length c, .int .i64 s.mir, .complex .f32 s.gr.1 s.gr.2, .float .f32 s.loss, .slice B s.bs.length d, .int .i64 s.tk, .slice L s.log.length q], .agg #[.int .i64 e.k, .int .i64 e.n, .complex .f32 e.z.1 e.z.2, .complex .f32 e.s.1.1 e.s.1.2, .complex .f32 e.s.2.1.1 e.s.2.1.2, .complex .f32 e.s.2.2.1.1 e.s.2.2.1.2, .float .f32 e.s.2.2.2.1.1, .float .f32 e.s.2.2.2.1.2.1, .float .f32 e.s.2.2.2.1.2.2, .float .f32 e.s.2.2.2.2, .float .f32 e.c.1, .float .f32 e.c.2.1, .float .f32 e.c.2.2]] w fun r w' => HapI s e base (OwnB s A B L c d q) w.heap.size r w' ∧ BelF base (OwnB s A B L c d q) w w' := by
  have k1 : (e.k == 1) = false := by rw [he]; rfl
  have k2 : (e.k == 2) = false := by rw [he]; rfl
  have k3 : (e.k == 3) = false := by rw [he]; rfl
  have k4 : (e.k == 4) = true := by rw [he]; rfl
  have k6 : (e.k == 6) = false := by rw [he]; rfl
  obtain ⟨ml, hml⟩ : ∃ ml, ml = s.bs.map (mirBd e.n) := ⟨_, rfl⟩
  have ht : hap s e = some { s with mir := e.n, bs := ml } := by rw [he, hml]; rfl
  have hll : ml.length = s.bs.length := by rw [hml]; simp
  have ML := Lib.hid hml
  have LL := Lib.hid hll
  have HT := Lib.hid ht
  have OWN := Lib.hid own
  clear own he ht hml hll
  go_enter Tryz.func33, Tryz.ntmps33
  go_upto_region 1 with fail
  have h := hs_new e hb OWN.out #[.int .i64 s.sz, .float .f32 s.st, .float .f32 s.li.1, .float .f32 s.li.2.1, .float .f32 s.li.2.2, .slice A s.sh.length c, .int .i64 s.mir, .complex .f32 s.gr.1 s.gr.2, .float .f32 s.loss, .slice B s.bs.length d, .int .i64 s.tk, .slice L s.log.length q] #[.int .i64 0, .float .f32 0, .float .f32 0, .float .f32 0, .float .f32 0, .slice none 0 0, .int .i64 0, .complex .f32 0 0, .float .f32 0, .slice none 0 0, .int .i64 0, .slice none 0 0] 34 38 34 rfl rfl #[.int .i64 e.k, .int .i64 e.n, .complex .f32 e.z.1 e.z.2, .complex .f32 e.s.1.1 e.s.1.2, .complex .f32 e.s.2.1.1 e.s.2.1.2, .complex .f32 e.s.2.2.1.1 e.s.2.2.1.2, .float .f32 e.s.2.2.2.1.1, .float .f32 e.s.2.2.2.1.2.1, .float .f32 e.s.2.2.2.1.2.2, .float .f32 e.s.2.2.2.2, .float .f32 e.c.1, .float .f32 e.c.2.1, .float .f32 e.c.2.2] rfl
  obtain ⟨W, hWe⟩ : ∃ W, W = ((w.alloc (Obj.cells #[.int .i64 s.sz, .float .f32 s.st, .float .f32 s.li.1, .float .f32 s.li.2.1, .float .f32 s.li.2.2, .slice A s.sh.length c, .int .i64 s.mir, .complex .f32 s.gr.1 s.gr.2, .float .f32 s.loss, .slice B s.bs.length d, .int .i64 s.tk, .slice L s.log.length q] 34)).alloc (Obj.cells #[.int .i64 e.k, .int .i64 e.n, .complex .f32 e.z.1 e.z.2, .complex .f32 e.s.1.1 e.s.1.2, .complex .f32 e.s.2.1.1 e.s.2.1.2, .complex .f32 e.s.2.2.1.1 e.s.2.2.1.2, .float .f32 e.s.2.2.2.1.1, .float .f32 e.s.2.2.2.1.2.1, .float .f32 e.s.2.2.2.1.2.2, .float .f32 e.s.2.2.2.2, .float .f32 e.c.1, .float .f32 e.c.2.1, .float .f32 e.c.2.2] 38)).alloc (Obj.cells #[.int .i64 0, .float .f32 0, .float .f32 0, .float .f32 0, .float .f32 0, .slice none 0 0, .int .i64 0, .complex .f32 0 0, .float .f32 0, .slice none 0 0, .int .i64 0, .slice none 0 0] 34) := ⟨_, rfl⟩
  rw [← hWe] at h
  rw [← hWe]
  clear hWe hb OWN
  have lx := h.lt
  have a0 := h.cx 0 _ rfl; have a1 := h.cx 1 _ rfl; have a2 := h.cx 2 _ rfl; have a3 := h.cx 3 _ rfl; have a4 := h.cx 4 _ rfl; have a5 := h.cx 5 _ rfl; have a6 := h.cx 6 _ rfl; have a7 := h.cx 7 _ rfl; have a8 := h.cx 8 _ rfl; have a9 := h.cx 9 _ rfl; have a10 := h.cx 10 _ rfl; have a11 := h.cx 11 _ rfl
  have y0 := h.cy 0 _ rfl; have y1 := h.cy 1 _ rfl; have y2 := h.cy 2 _ rfl; have y3 := h.cy 3 _ rfl; have y4 := h.cy 4 _ rfl; have y5 := h.cy 5 _ rfl; have y6 := h.cy 6 _ rfl; have y7 := h.cy 7 _ rfl; have y8 := h.cy 8 _ rfl; have y9 := h.cy 9 _ rfl; have y10 := h.cy 10 _ rfl; have y11 := h.cy 11 _ rfl; have y12 := h.cy 12 _ rfl
  go_upto_region 2 with fail
  go_quiet (fail)
  have f0 := h.fx 0; have f1 := h.fx 1; have f2 := h.fx 2; have f3 := h.fx 3; have f4 := h.fx 4; have f5 := h.fx 5; have f6 := h.fx 6; have f7 := h.fx 7; have f8 := h.fx 8; have f9 := h.fx 9; have f10 := h.fx 10; have f11 := h.fx 11
  go_upto_region 16 with fail
  clear a0 a1 a2 a3 a4 a5 a6 a7 a8 a9 a10 a11 y0 y1 y2 y3 y4 y5 y6 y7 y8 y9 y10 y11 y12 f0 f1 f2 f3 f4 f5 f6 f7 f8 f9 f10 f11
  replace h := ((h.drew_ nq).put 6 (.int .i64 e.n)); obtain ⟨V, hVe⟩ : ∃ V, V = ((W.drewN nq).setCell ⟨w.heap.size, 6, none⟩ (.int .i64 e.n)) := ⟨_, rfl⟩; rw [← hVe] at h; rw [← hVe]; clear hVe; replace lx := h.lt
  replace h := h.as { s with mir := e.n, bs := mixL ml s.bs 0 } rfl (mixL_zero _ _) rfl
  have HV := Lib.hid h
  have a9 := h.cx 9 _ rfl
  obtain ⟨m, hmm⟩ : ∃ m, m = s.bs.length := ⟨_, rfl⟩
  rw [← hmm] at a9
  have HM := Lib.hid hmm
  rw [← hmm] at hm
  clear h hmm
  go_wp2_with fail
  go_loopw [111] (fun i wr => ∃ k : Nat, k ≤ m ∧ i = .int .i64 k ∧ HS w (OwnB s A B L c d q) base w.heap.size e ((shwL s A B L s.sh.length c s.bs.length d s.log.length q).set 6 (.int .i64 e.n)) shw0 { s with mir := e.n, bs := mixL ml s.bs k } A B L c d q wr) (fun i _ => m - (intOf i).toNat)
  case atStart => exact ⟨0, Nat.zero_le _, rfl, HV.out⟩
  case round =>
    clear a9 lx
    obtain ⟨k, hk, rfl, h⟩ := hrel
    have lx := h.lt
    by_cases hlt : k < m
    · have hki : (k : Int) < (m : Int) := by omega
      have hk0 : (0 : Int) ≤ (k : Int) := by omega
      have hkb : k < s.bs.length := by have := HM.out; omega
      have lm := mixL_len (k := k) LL.out (by omega)
      obtain ⟨bb, off, a, v, hB, hbl, hx, x0, x1⟩ := (h.own.rd.2.1).bd (k := k) (by rw [lm]; exact hkb)
      obtain ⟨g, hB', hmd, hdm⟩ := owns_slice_at h.own.2.1 (by rw [lm]; omega)
      rw [hB] at hB'
      injection hB' with hB'
      injection hB' with hB1 hB2
      subst hB1 hB2 hB
      rw [Nat.zero_add] at x0 x1
      have hxb := hx
      rw [mixL_get LL.out hkb] at hxb
      have hy : ml[k]? = some (mirBd e.n (a, v)) := by rw [ML.out, List.getElem?_map, hxb]; rfl
      have SB := mixL_set LL.out hy
      have kf := fun w => foldPoint_any e.n a w
      unfold mirBd at SB
      dsimp only at SB
      generalize foldP e.n a = rr at kf SB
      obtain ⟨⟨p1, p2⟩, ⟨gt, gf⟩, ok⟩ := rr
      dsimp only at SB
      have ka := fun w => actSym_any gt gf v.1 v.2 w
      generalize actP gt gf v.1 v.2 = y at ka SB
      obtain ⟨y1, y2⟩ := y
      simp only [foldV] at kf
      simp only [cxV] at ka
      have KF := Lib.hid kf
      have KA := Lib.hid ka
      have SBH := Lib.hid SB
      have LM := Lib.hid lm
      clear kf ka SB hy hx hxb lm
      have a9 := h.cx 9 _ rfl
      have e1 := h.cy 1 _ rfl
      rw [← HM.out] at a9
      have lx0 : w.heap.size < wr.heap.size := by omega
      have lx1 : w.heap.size + 1 < wr.heap.size := by omega
      go_upto_region 19 with fail
      replace h := h.alloc_ (Obj.cells #[.complex .f32 a.1 a.2, .complex .f32 v.1 v.2] 54)
      have cb := CA.new wr #[.complex .f32 a.1 a.2, .complex .f32 v.1 v.2] 54
      have lX : wr.heap.size < (wr.alloc (Obj.cells #[.complex .f32 a.1 a.2, .complex .f32 v.1 v.2] 54)).heap.size := by simp
      obtain ⟨X, hXe⟩ : ∃ X, X = wr.alloc (Obj.cells #[.complex .f32 a.1 a.2, .complex .f32 v.1 v.2] 54) := ⟨_, rfl⟩
      rw [← hXe] at h cb lX
      rw [← hXe]
      clear hXe e1 a9 x0 x1
      have e1 := h.cy 1 _ rfl
      have b0 := cb 0 _ rfl
      go_wp2_with fail
      (with_reducible refine (KF.out _).mono ?_)
      rintro r w5 ⟨rfl, hb⟩
      replace h := h.below_ hb
      replace cb := cb.keep hb
      have z5 := hb.size
      clear e1 b0 hb
      go_upto_region 20 with fail
      have l5 : wr.heap.size < w5.heap.size := by omega
      replace h := h.alloc_ (Obj.cells #[.int .i64 gt, .bool gf] 58)
      replace cb := cb.alloc (Obj.cells #[.int .i64 gt, .bool gf] 58)
      have cs := CA.new w5 #[.int .i64 gt, .bool gf] 58
      have lY : w5.heap.size < (w5.alloc (Obj.cells #[.int .i64 gt, .bool gf] 58)).heap.size := by simp
      obtain ⟨Y, hYe⟩ : ∃ Y, Y = w5.alloc (Obj.cells #[.int .i64 gt, .bool gf] 58) := ⟨_, rfl⟩
      rw [← hYe] at h cb cs lY
      rw [← hYe]
      clear hYe
      have a9 := h.cx 9 _ rfl
      rw [← HM.out] at a9
      have b1 := cb 1 _ rfl
      have s0 := cs 0 _ rfl
      have s1 := cs 1 _ rfl
      have lb1 : wr.heap.size < Y.heap.size := by omega
      have lxY : w.heap.size < Y.heap.size := by have := h.lt; omega
      have OB := h.own
      unfold OwnS at OB
      obtain ⟨u0, hu0⟩ := owns_cell OB.2.1 (k * 2) (by rw [LM.out]; omega)
      obtain ⟨u1, hu1⟩ := owns_cell OB.2.1 (k * 2 + 1) (by rw [LM.out]; omega)
      have fB0 := OB.2.1.frozenAt (k * 2)
      have fB1 := OB.2.1.frozenAt (k * 2 + 1)
      have hne : bb < Y.heap.size := (OB.2.1.lt bb rfl).2
      clear OB
      refine wp_region_T (fun z => ∀ b o, b < Y.heap.size → z.cell? ⟨b, o, none⟩ = Y.cell? ⟨b, o, none⟩) (fun j => decide (12 ≤ j)) (by kernel_rfl) (fun _ _ _ => rfl) (fun hHeld => ?_)
      refine wpAnyT_take (i := 0) (v := .pointer (some ⟨w.heap.size, 6, none⟩)) rfl (by kernel_rfl) (by kernel_rfl) (by kernel_rfl) (by kernel_rfl) (fun _ _ _ h => h) (Or.inl ⟨by rfl, (by intro wz hSz; (try dsimp only at hSz); go_simp)⟩) hHeld ?_; try simp only [Act.put, List.getElem_toArray, List.getElem_cons_zero, List.setIfInBounds_toArray, List.set_cons_zero, List.set_cons_succ]; refine wpAnyT_take (i := 1) (v := .pointer (some ⟨w.heap.size, 6, none⟩)) rfl (by kernel_rfl) (by kernel_rfl) (by kernel_rfl) (by kernel_rfl) (fun _ _ _ h => h) (Or.inl ⟨by rfl, (by intro wz hSz; (try dsimp only at hSz); go_simp)⟩) hHeld ?_; try simp only [Act.put, List.getElem_toArray, List.getElem_cons_succ, List.getElem_cons_zero, List.setIfInBounds_toArray, List.set_cons_zero, List.set_cons_succ]; refine wpAnyT_take (i := 2) (v := .pointer (some ⟨w.heap.size, 9, none⟩)) rfl (by kernel_rfl) (by kernel_rfl) (by kernel_rfl) (by kernel_rfl) (fun _ _ _ h => h) (Or.inl ⟨by rfl, (by intro wz hSz; (try dsimp only at hSz); go_simp)⟩) hHeld ?_; try simp only [Act.put, List.getElem_toArray, List.getElem_cons_succ, List.getElem_cons_zero, List.setIfInBounds_toArray, List.set_cons_zero, List.set_cons_succ]; refine wpAnyT_take (i := 3) (v := .slice (some ⟨bb, 0, none⟩) m d) rfl (by kernel_rfl) (by kernel_rfl) (by kernel_rfl) (by kernel_rfl) (fun _ _ _ h => h) (Or.inl ⟨by rfl, (by intro wz hSz; (try dsimp only at hSz); go_simp)⟩) hHeld ?_; try simp only [Act.put, List.getElem_toArray, List.getElem_cons_succ, List.getElem_cons_zero, List.setIfInBounds_toArray, List.set_cons_zero, List.set_cons_succ]; refine wpAnyT_take (i := 4) (v := .int .i64 (k : Int)) rfl (by kernel_rfl) (by kernel_rfl) (by kernel_rfl) (by kernel_rfl) (fun _ _ _ h => h) (Or.inl ⟨by rfl, (by intro wz hSz; (try dsimp only at hSz); go_simp)⟩) hHeld ?_; try simp only [Act.put, List.getElem_toArray, List.getElem_cons_succ, List.getElem_cons_zero, List.setIfInBounds_toArray, List.set_cons_zero, List.set_cons_succ]; refine wpAnyT_take (i := 5) (v := .complex .f32 p1 p2) rfl (by kernel_rfl) (by kernel_rfl) (by kernel_rfl) (by kernel_rfl) (fun _ _ _ h => h) (Or.inl ⟨by rfl, (by intro wz hSz; (try dsimp only at hSz); go_simp)⟩) hHeld ?_; try simp only [Act.put, List.getElem_toArray, List.getElem_cons_succ, List.getElem_cons_zero, List.setIfInBounds_toArray, List.set_cons_zero, List.set_cons_succ]; refine wpAnyT_take (i := 6) (v := .agg #[.int .i64 gt, .bool gf]) rfl (by kernel_rfl) (by kernel_rfl) (by kernel_rfl) (by kernel_rfl) (fun _ _ _ h => h) (Or.inl ⟨by rfl, (by intro wz hSz; (try dsimp only at hSz); go_simp)⟩) hHeld ?_; try simp only [Act.put, List.getElem_toArray, List.getElem_cons_succ, List.getElem_cons_zero, List.setIfInBounds_toArray, List.set_cons_zero, List.set_cons_succ]; refine wpAnyT_take (i := 7) (v := .pointer (some ⟨wr.heap.size, 1, none⟩)) rfl (by kernel_rfl) (by kernel_rfl) (by kernel_rfl) (by kernel_rfl) (fun _ _ _ h => h) (Or.inl ⟨by rfl, (by intro wz hSz; (try dsimp only at hSz); go_simp)⟩) hHeld ?_; try simp only [Act.put, List.getElem_toArray, List.getElem_cons_succ, List.getElem_cons_zero, List.setIfInBounds_toArray, List.set_cons_zero, List.set_cons_succ]; refine wpAnyT_take (i := 8) (v := .complex .f32 v.1 v.2) rfl (by kernel_rfl) (by kernel_rfl) (by kernel_rfl) (by kernel_rfl) (fun _ _ _ h => h) (Or.inl ⟨by rfl, (by intro wz hSz; (try dsimp only at hSz); go_simp)⟩) hHeld ?_; try simp only [Act.put, List.getElem_toArray, List.getElem_cons_succ, List.getElem_cons_zero, List.setIfInBounds_toArray, List.set_cons_zero, List.set_cons_succ]
      refine wpAnyT_one (i := 9) (by kernel_rfl) rfl (fun K hK => ?_)
      go_simp
      go_at_call 45
      (with_reducible refine (KA.out _).mono ?_)
      rintro r w7 ⟨rfl, hb7⟩
      have hB7 : Below Y.heap.size Y w7 := by (repeat (first | with_reducible assumption | exact Below.refl _ _ | (refine Below.setCell ?_ (by first | exact Nat.le_refl _ | (simp; done) | omega | (simp; omega)) _) | (refine below_drewN ?_ _) | (refine Below.drew ?_) | (refine Below.alloc ?_ (by first | exact Nat.le_refl _ | (simp; done) | omega | (simp; omega)) _) | (refine then_ ?_ (by with_reducible assumption)) | assumption | (refine then_ ?_ (by assumption))))
      go_wp2_with fail
      refine hK.out _ _ (fun _ b o h => hB7.cell (p := ⟨b, o, none⟩) h) (fun hH => ?_)
      have hHeld := hH rfl
      clear hK K hH
      try simp only [Act.put, List.setIfInBounds_toArray, List.set_cons_zero, List.set_cons_succ]
      refine wpAnyT_take (i := 10) (v := .agg #[.complex .f32 p1 p2, .complex .f32 y1 y2]) rfl (by kernel_rfl) (by kernel_rfl) (by kernel_rfl) (by kernel_rfl) (fun _ _ _ h => h) (Or.inl ⟨by rfl, (by intro wz hSz; (try dsimp only at hSz); go_simp)⟩) hHeld ?_; try simp only [Act.put, List.getElem_toArray, List.getElem_cons_succ, List.getElem_cons_zero, List.setIfInBounds_toArray, List.set_cons_zero, List.set_cons_succ]; refine wpAnyT_take (i := 11) (v := .pointer (some ⟨bb, k * 2, none⟩)) rfl (by kernel_rfl) (by kernel_rfl) (by kernel_rfl) (by kernel_rfl) (fun _ _ _ h => h) (Or.inl ⟨by rfl, (by intro wz hSz; (try dsimp only at hSz); go_simp)⟩) hHeld ?_; try simp only [Act.put, List.getElem_toArray, List.getElem_cons_succ, List.getElem_cons_zero, List.setIfInBounds_toArray, List.set_cons_zero, List.set_cons_succ]
      clear hHeld
      replace hu0 := keepC hu0 hB7
      replace hu1 := keepC hu1 hB7
      replace fB0 := (hB7.frozen (p := ⟨bb, k * 2, none⟩) hne).trans fB0
      replace fB1 := (hB7.frozen (p := ⟨bb, k * 2 + 1, none⟩) hne).trans fB1
      replace h := h.below_ hB7
      have z7 := hB7.size
      have lb7 : bb < w7.heap.size := by omega
      refine wpAnyT_one (i := 12) (by kernel_rfl) rfl (fun K hK => ?_)
      go_simp
      refine hK.out _ _ (fun e => by cases e) (fun hH => ?_)
      clear hK K hH
      try simp only [Act.put, List.setIfInBounds_toArray, List.set_cons_zero, List.set_cons_succ]
      refine wpAnyT_end (by kernel_rfl) ?_ _
      go_wp2_with fail
      go_roundw
      case rel =>
        refine ⟨k + 1, by omega, by go_num, ?_⟩
        have hr := h.setB2 (i := k) (by show k < (mixL ml s.bs k).length; rw [LM.out]; have := HM.out; omega) (p1, p2) (y1, y2)
        exact hr.as _ rfl (SBH.out).symm rfl
      case measure => simp [intOf]; omega
    · obtain rfl : k = m := by omega
      have eB : mixL ml s.bs k = ml := by rw [HM.out]; exact mixL_all LL.out
      rw [eB] at h
      obtain ⟨U, hU⟩ : ∃ U, U = wr := ⟨_, rfl⟩
      rw [← hU] at h lx
      rw [← hU]
      clear hU eB HV
      go_upto_region 35 with fail
      obtain ⟨i0, hi, hz0, hz1, hz2⟩ := info_parts infoEv
      have OL : Hid (U.ownsRow base 38 13 (.slice L s.log.length q) s.log.length (flat evC s.log)) := Lib.hid h.own.2.2.1
      have HSL := Lib.hid h
      have a0 := h.cx 0 _ rfl; have a1 := h.cx 1 _ rfl; have a2 := h.cx 2 _ rfl; have a3 := h.cx 3 _ rfl; have a4 := h.cx 4 _ rfl; have a5 := h.cx 5 _ rfl; have a6 := h.cx 6 _ rfl; have a7 := h.cx 7 _ rfl; have a8 := h.cx 8 _ rfl; have a9 := h.cx 9 _ rfl; have a10 := h.cx 10 _ rfl; have a11 := h.cx 11 _ rfl
      have y0 := h.cy 0 _ rfl; have y1 := h.cy 1 _ rfl; have y2 := h.cy 2 _ rfl; have y3 := h.cy 3 _ rfl; have y4 := h.cy 4 _ rfl; have y5 := h.cy 5 _ rfl; have y6 := h.cy 6 _ rfl; have y7 := h.cy 7 _ rfl; have y8 := h.cy 8 _ rfl; have y9 := h.cy 9 _ rfl; have y10 := h.cy 10 _ rfl; have y11 := h.cy 11 _ rfl; have y12 := h.cy 12 _ rfl
      have bx : base ≤ w.heap.size := h.bx
      go_wp2_with (at_builtin; refine wpList_append_own_at _ rfl _ _ 32 rfl base 38 i0 (.agg #[.int .i64 0, .int .i64 0, .complex .f32 0 0, .complex .f32 0 0, .complex .f32 0 0, .complex .f32 0 0, .float .f32 0, .float .f32 0, .float .f32 0, .float .f32 0, .float .f32 0, .float .f32 0, .float .f32 0]) 13 80 Tryz.underlying32 hi hz0 hz1 hz2 rfl (by decide) _ _ _ rfl (OL.out.alloc _) ⟨U.heap.size, 0, none⟩ 1 1 (evC e) rfl rfl ?c1 ?c2 ?c3 ?c4 ?c5 ?_; (case c1 => exact World.news_of_block (cs := #[.int .i64 e.k, .int .i64 e.n, .complex .f32 e.z.1 e.z.2, .complex .f32 e.s.1.1 e.s.1.2, .complex .f32 e.s.2.1.1 e.s.2.1.2, .complex .f32 e.s.2.2.1.1 e.s.2.2.1.2, .float .f32 e.s.2.2.2.1.1, .float .f32 e.s.2.2.2.1.2.1, .float .f32 e.s.2.2.2.1.2.2, .float .f32 e.s.2.2.2.2, .float .f32 e.c.1, .float .f32 e.c.2.1, .float .f32 e.c.2.2]) (t := 38) (fr := (0, 0)) (heap_alloc_new U _)); (case c2 => simp [evC, Value.oneCell']); (case c3 => unfold maxLen; omega); (case c4 => omega); (case c5 => simp only [World.size_alloc]; omega); intro v3 w3 hown3 hg3 hne3 hat3; obtain ⟨L3, q3, rfl, h3⟩ := HSL.out.appL _ e hown3 hg3 hat3; have H3 := Lib.hid h3; have a0 := h3.cx 0 _ rfl; have a1 := h3.cx 1 _ rfl; have a2 := h3.cx 2 _ rfl; have a3 := h3.cx 3 _ rfl; have a4 := h3.cx 4 _ rfl; have a5 := h3.cx 5 _ rfl; have a6 := h3.cx 6 _ rfl; have a7 := h3.cx 7 _ rfl; have a8 := h3.cx 8 _ rfl; have a9 := h3.cx 9 _ rfl; have a10 := h3.cx 10 _ rfl; have a11 := h3.cx 11 _ rfl; have f0 := h3.fx 0; have f1 := h3.fx 1; have f2 := h3.fx 2; have f3 := h3.fx 3; have f4 := h3.fx 4; have f5 := h3.fx 5; have f6 := h3.fx 6; have f7 := h3.fx 7; have f8 := h3.fx 8; have f9 := h3.fx 9; have f10 := h3.fx 10; have f11 := h3.fx 11; have o0 := h3.co 0 _ rfl; have o1 := h3.co 1 _ rfl; have o2 := h3.co 2 _ rfl; have o3 := h3.co 3 _ rfl; have o4 := h3.co 4 _ rfl; have o5 := h3.co 5 _ rfl; have o6 := h3.co 6 _ rfl; have o7 := h3.co 7 _ rfl; have o8 := h3.co 8 _ rfl; have o9 := h3.co 9 _ rfl; have o10 := h3.co 10 _ rfl; have o11 := h3.co 11 _ rfl; have fo : FA w3 (w.heap.size + 1 + 1) := h3.fo; have g0 := fo 0; have g1 := fo 1; have g2 := fo 2; have g3 := fo 3; have g4 := fo 4; have g5 := fo 5; have g6 := fo 6; have g7 := fo 7; have g8 := fo 8; have g9 := fo 9; have g10 := fo 10; have g11 := fo 11; have lx := h3.lt; clear HSL hown3 hg3 hne3 hat3 h3 fo)
      have hz := ((((((((((((H3.out.put 11 (.slice L3 (s.log.length + 1) q3)).puto 0 (.int .i64 (({ s with mir := e.n, bs := ml } : Shw)).sz)).puto 1 (.float .f32 (({ s with mir := e.n, bs := ml } : Shw)).st)).puto 2 (.float .f32 (({ s with mir := e.n, bs := ml } : Shw)).li.1)).puto 3 (.float .f32 (({ s with mir := e.n, bs := ml } : Shw)).li.2.1)).puto 4 (.float .f32 (({ s with mir := e.n, bs := ml } : Shw)).li.2.2)).puto 5 (.slice A s.sh.length c)).puto 6 (.int .i64 (({ s with mir := e.n, bs := ml } : Shw)).mir)).puto 7 (.complex .f32 (({ s with mir := e.n, bs := ml } : Shw)).gr.1 (({ s with mir := e.n, bs := ml } : Shw)).gr.2)).puto 8 (.float .f32 (({ s with mir := e.n, bs := ml } : Shw)).loss)).puto 9 (.slice B s.bs.length d)).puto 10 (.int .i64 (({ s with mir := e.n, bs := ml } : Shw)).tk)).puto 11 (.slice L3 (s.log.length + 1) q3)
      have co : CA _ (w.heap.size + 1 + 1) _ := hz.co
      have own := hz.own
      have bel := hz.bel
      have hin := And.intro hz.iA (And.intro hz.iB hz.iL)
      clear hz H3
      have z0 := co 0 _ rfl; have z1 := co 1 _ rfl; have z2 := co 2 _ rfl; have z3 := co 3 _ rfl; have z4 := co 4 _ rfl; have z5 := co 5 _ rfl; have z6 := co 6 _ rfl; have z7 := co 7 _ rfl; have z8 := co 8 _ rfl; have z9 := co 9 _ rfl; have z10 := co 10 _ rfl; have z11 := co 11 _ rfl
      refine bodyPost_ret (v := .tuple #[.agg #[.int .i64 (({ s with mir := e.n, bs := ml } : Shw)).sz, .float .f32 (({ s with mir := e.n, bs := ml } : Shw)).st, .float .f32 (({ s with mir := e.n, bs := ml } : Shw)).li.1, .float .f32 (({ s with mir := e.n, bs := ml } : Shw)).li.2.1, .float .f32 (({ s with mir := e.n, bs := ml } : Shw)).li.2.2, .slice A s.sh.length c, .int .i64 (({ s with mir := e.n, bs := ml } : Shw)).mir, .complex .f32 (({ s with mir := e.n, bs := ml } : Shw)).gr.1 (({ s with mir := e.n, bs := ml } : Shw)).gr.2, .float .f32 (({ s with mir := e.n, bs := ml } : Shw)).loss, .slice B s.bs.length d, .int .i64 (({ s with mir := e.n, bs := ml } : Shw)).tk, .slice L3 (s.log.length + 1) q3], .bool true]) (by simp [results, Tryz.results33, go_sem, z0, z1, z2, z3, z4, z5, z6, z7, z8, z9, z10, z11]) rfl ⟨hapI_yes (t := ({ s with mir := e.n, bs := ml } : Shw)) ?_ own hin (by simp [LL.out]), bel⟩
      exact HT.out
end Go.Proofs.YthlphmojldbpkaaGreat
