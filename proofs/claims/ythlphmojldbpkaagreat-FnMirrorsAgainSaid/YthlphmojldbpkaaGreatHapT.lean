
/- happen: the program's, a bead is taken out. -/
import Derived.Test.YthlphmojldbpkaaGreatM8
import Derived.Test.YthlphmojldbpkaaGreatM3
import Derived.Deep.QuietTactic
import Derived.BigQuiet
namespace Go.Proofs.YthlphmojldbpkaaGreat
open Go.RowKit
attribute [local go_sem] run_store_float run_store_complex




set_option maxRecDepth 100000 in
set_option maxHeartbeats 4000000 in
theorem happen_take (s : Shw) (e : Ev) (i : Nat) (he : e = .take (i : Int)) (A B L : Option Addr) (c d q base : Nat) (w : World) (hb : base ≤ w.heap.size) (hi : i < s.bs.length) (hl : s.bs.length = s.sh.length) (hm : s.bs.length ≤ 1000) (hp : s.log.length ≤ 1000) (own : OwnS w base s A B L c d q) :
    Calls Tryz.prog 33 #[.agg #[.int .i64 s.sz, .float .f32 s.st, .float .f32 s.li.1, .float .f32 s.li.2.1, .float .f32 s.li.2.2, .slice A s.sh.length c, .int .i64 s.mir, .complex .f32 s.gr.1 s.gr.2, .float .f32 s.loss, .slice B s.bs.length d, .int .i64 s.tk, .slice L s.log.length q], .agg #[.int .i64 e.k, .int .i64 e.n, .complex .f32 e.z.1 e.z.2, .complex .f32 e.s.1.1 e.s.1.2, .complex .f32 e.s.2.1.1 e.s.2.1.2, .complex .f32 e.s.2.2.1.1 e.s.2.2.1.2, .float .f32 e.s.2.2.2.1.1, .float .f32 e.s.2.2.2.1.2.1, .float .f32 e.s.2.2.2.1.2.2, .float .f32 e.s.2.2.2.2, .float .f32 e.c.1, .float .f32 e.c.2.1, .float .f32 e.c.2.2]] w fun r w' => HapI s e base (OwnB s A B L c d q) w.heap.size r w' ∧ BelF base (OwnB s A B L c d q) w w' := by
  have k1 : (e.k == 1) = false := by rw [he]; rfl
  have k2 : (e.k == 2) = true := by rw [he]; rfl
  have en : e.n = (i : Int) := by rw [he]; rfl
  have hii : (i : Int) < (s.bs.length : Int) := by omega
  have hi0 : (0 : Int) ≤ (i : Int) := by omega
  have hge : decide ((s.bs.length : Int) ≤ (i : Int)) = false := by simp; omega
  have hw1 : IntKind.i64.wrap ((i : Int) + 1) = (i : Int) + 1 := by rw [IntKind.wrap_i64] <;> omega
  have hj : i < s.sh.length := by omega
  have hs : s.sh.length ≤ 1000 := by omega
  have E1 : (s.sh.eraseIdx i).length = s.sh.length - 1 := List.length_eraseIdx_of_lt hj
  have E2 : (s.bs.eraseIdx i).length = s.bs.length - 1 := List.length_eraseIdx_of_lt hi
  have EE := Lib.hid (And.intro E1 E2)
  clear E1 E2
  have EN := Lib.hid en
  have HE := Lib.hid he
  have OWN := Lib.hid own
  clear own he en hl
  go_enter Tryz.func33, Tryz.ntmps33
  go_upto_region 1 with fail
  have h := hs_new e hb OWN.out #[.int .i64 s.sz, .float .f32 s.st, .float .f32 s.li.1, .float .f32 s.li.2.1, .float .f32 s.li.2.2, .slice A s.sh.length c, .int .i64 s.mir, .complex .f32 s.gr.1 s.gr.2, .float .f32 s.loss, .slice B s.bs.length d, .int .i64 s.tk, .slice L s.log.length q] #[.int .i64 0, .float .f32 0, .float .f32 0, .float .f32 0, .float .f32 0, .slice none 0 0, .int .i64 0, .complex .f32 0 0, .float .f32 0, .slice none 0 0, .int .i64 0, .slice none 0 0] 34 38 34 rfl rfl #[.int .i64 e.k, .int .i64 e.n, .complex .f32 e.z.1 e.z.2, .complex .f32 e.s.1.1 e.s.1.2, .complex .f32 e.s.2.1.1 e.s.2.1.2, .complex .f32 e.s.2.2.1.1 e.s.2.2.1.2, .float .f32 e.s.2.2.2.1.1, .float .f32 e.s.2.2.2.1.2.1, .float .f32 e.s.2.2.2.1.2.2, .float .f32 e.s.2.2.2.2, .float .f32 e.c.1, .float .f32 e.c.2.1, .float .f32 e.c.2.2] rfl
  obtain ⟨W, hWe⟩ : ∃ W, W = ((w.alloc (Obj.cells #[.int .i64 s.sz, .float .f32 s.st, .float .f32 s.li.1, .float .f32 s.li.2.1, .float .f32 s.li.2.2, .slice A s.sh.length c, .int .i64 s.mir, .complex .f32 s.gr.1 s.gr.2, .float .f32 s.loss, .slice B s.bs.length d, .int .i64 s.tk, .slice L s.log.length q] 34)).alloc (Obj.cells #[.int .i64 e.k, .int .i64 e.n, .complex .f32 e.z.1 e.z.2, .complex .f32 e.s.1.1 e.s.1.2, .complex .f32 e.s.2.1.1 e.s.2.1.2, .complex .f32 e.s.2.2.1.1 e.s.2.2.1.2, .float .f32 e.s.2.2.2.1.1, .float .f32 e.s.2.2.2.1.2.1, .float .f32 e.s.2.2.2.1.2.2, .float .f32 e.s.2.2.2.2, .float .f32 e.c.1, .float .f32 e.c.2.1, .float .f32 e.c.2.2] 38)).alloc (Obj.cells #[.int .i64 0, .float .f32 0, .float .f32 0, .float .f32 0, .float .f32 0, .slice none 0 0, .int .i64 0, .complex .f32 0 0, .float .f32 0, .slice none 0 0, .int .i64 0, .slice none 0 0] 34) := ⟨_, rfl⟩
  rw [← hWe] at h
  rw [← hWe]
  clear hWe hb OWN
  have lx := h.lt
  have a0 := h.cx 0 _ rfl; have a1 := h.cx 1 _ rfl; have a2 := h.cx 2 _ rfl; have a3 := h.cx 3 _ rfl; have a4 := h.cx 4 _ rfl; have a5 := h.cx 5 _ rfl; have a6 := h.cx 6 _ rfl; have a7 := h.cx 7 _ rfl; have a8 := h.cx 8 _ rfl; have a9 := h.cx 9 _ rfl; have a10 := h.cx 10 _ rfl; have a11 := h.cx 11 _ rfl
  have y0 := h.cy 0 _ rfl; have y1 := h.cy 1 _ rfl; have y2 := h.cy 2 _ rfl; have y3 := h.cy 3 _ rfl; have y4 := h.cy 4 _ rfl; have y5 := h.cy 5 _ rfl; have y6 := h.cy 6 _ rfl; have y7 := h.cy 7 _ rfl; have y8 := h.cy 8 _ rfl; have y9 := h.cy 9 _ rfl; have y10 := h.cy 10 _ rfl; have y11 := h.cy 11 _ rfl; have y12 := h.cy 12 _ rfl
  rw [EN.out] at y1
  obtain ⟨gA, rfl, _, _⟩ := owns_slice_at h.own.1 (by omega)
  obtain ⟨gB, rfl, _, _⟩ := owns_slice_at h.own.2.1 (by omega)
  have KA := Lib.hid (fun w own => deleteSh_any gA s.sh.length c i s.sh base w hj hs rfl own)
  have KB := Lib.hid (fun w own => deleteBd_any gB s.bs.length d i s.bs base w hi hm rfl own)
  go_upto_region 2 with fail
  go_quiet (fail)
  go_wp2_with fail
  have own := (h.drew_ nq).own
  unfold OwnS at own
  (with_reducible refine (KA.out _ own.1).mono ?_)
  rintro r w2 ⟨rfl, oA, gr⟩
  replace h := (h.drew_ nq).delA hj oA gr
  have lx := h.lt
  clear own a0 a1 a2 a3 a4 a5 a6 a7 a8 a9 a10 a11 y0 y1 y2 y3 y4 y5 y6 y7 y8 y9 y10 y11 y12 oA gr KA
  have a5 := h.cx 5 _ rfl
  have f5 := h.fx 5
  go_upto_region 11 with fail
  clear a5 f5
  replace h := (h.put 5 (.slice (some ⟨gA, 0, none⟩) (s.sh.length - 1) c)); obtain ⟨V, hVe⟩ : ∃ V, V = (w2.setCell ⟨w.heap.size, 5, none⟩ (.slice (some ⟨gA, 0, none⟩) (s.sh.length - 1) c)) := ⟨_, rfl⟩; rw [← hVe] at h; rw [← hVe]; clear hVe; replace lx := h.lt
  have a0 := h.cx 0 _ rfl; have a1 := h.cx 1 _ rfl; have a2 := h.cx 2 _ rfl; have a3 := h.cx 3 _ rfl; have a4 := h.cx 4 _ rfl; have a5 := h.cx 5 _ rfl; have a6 := h.cx 6 _ rfl; have a7 := h.cx 7 _ rfl; have a8 := h.cx 8 _ rfl; have a9 := h.cx 9 _ rfl; have a10 := h.cx 10 _ rfl; have a11 := h.cx 11 _ rfl
  have y0 := h.cy 0 _ rfl; have y1 := h.cy 1 _ rfl; have y2 := h.cy 2 _ rfl; have y3 := h.cy 3 _ rfl; have y4 := h.cy 4 _ rfl; have y5 := h.cy 5 _ rfl; have y6 := h.cy 6 _ rfl; have y7 := h.cy 7 _ rfl; have y8 := h.cy 8 _ rfl; have y9 := h.cy 9 _ rfl; have y10 := h.cy 10 _ rfl; have y11 := h.cy 11 _ rfl; have y12 := h.cy 12 _ rfl
  rw [EN.out] at y1
  have f9 := h.fx 9
  have own := h.own
  unfold OwnS at own
  have hor : ∀ b, w.heap.size ≤ b → b ≤ w.heap.size + 1 → b ≠ gB := fun b h1 h2 e => h.oB b h1 (by omega) (by rw [e]; rfl)
  have hHor := Lib.hid hor
  have OB := Lib.hid own.2.1
  clear own hor
  refine wp_region_T (fun v => ∀ b o, w.heap.size ≤ b → b ≤ w.heap.size + 1 → v.cell? ⟨b, o, none⟩ = V.cell? ⟨b, o, none⟩) (fun j => decide (13 ≤ j)) (by kernel_rfl) (fun _ _ _ _ => rfl) (fun hHeld => ?_)
  have OD : V.drew.ownsRow base 54 2 (.slice (some ⟨gB, 0, none⟩) s.bs.length d) s.bs.length (flat bdC s.bs) := own_drewN OB.out 1
  have OD := Lib.hid OD
  refine wpAnyT_take (i := 0) (v := .pointer (some ⟨w.heap.size, 6, none⟩)) rfl (by kernel_rfl) (by kernel_rfl) (by kernel_rfl) (by kernel_rfl) (fun _ _ _ h => h) (Or.inl ⟨by rfl, (by intro wz hSz; (try dsimp only at hSz); go_simp)⟩) hHeld ?_; try simp only [Act.put, List.getElem_toArray, List.getElem_cons_zero, List.setIfInBounds_toArray, List.set_cons_zero, List.set_cons_succ]; refine wpAnyT_take (i := 1) (v := .pointer (some ⟨w.heap.size, 6, none⟩)) rfl (by kernel_rfl) (by kernel_rfl) (by kernel_rfl) (by kernel_rfl) (fun _ _ _ h => h) (Or.inl ⟨by rfl, (by intro wz hSz; (try dsimp only at hSz); go_simp)⟩) hHeld ?_; try simp only [Act.put, List.getElem_toArray, List.getElem_cons_succ, List.getElem_cons_zero, List.setIfInBounds_toArray, List.set_cons_zero, List.set_cons_succ]; refine wpAnyT_take (i := 2) (v := .pointer (some ⟨w.heap.size, 6, none⟩)) rfl (by kernel_rfl) (by kernel_rfl) (by kernel_rfl) (by kernel_rfl) (fun _ _ _ h => h) (Or.inl ⟨by rfl, (by intro wz hSz; (try dsimp only at hSz); go_simp)⟩) hHeld ?_; try simp only [Act.put, List.getElem_toArray, List.getElem_cons_succ, List.getElem_cons_zero, List.setIfInBounds_toArray, List.set_cons_zero, List.set_cons_succ]; refine wpAnyT_take (i := 3) (v := .pointer (some ⟨w.heap.size, 9, none⟩)) rfl (by kernel_rfl) (by kernel_rfl) (by kernel_rfl) (by kernel_rfl) (fun _ _ _ h => h) (Or.inl ⟨by rfl, (by intro wz hSz; (try dsimp only at hSz); go_simp)⟩) hHeld ?_; try simp only [Act.put, List.getElem_toArray, List.getElem_cons_succ, List.getElem_cons_zero, List.setIfInBounds_toArray, List.set_cons_zero, List.set_cons_succ]; refine wpAnyT_take (i := 4) (v := .slice (some ⟨gB, 0, none⟩) s.bs.length d) rfl (by kernel_rfl) (by kernel_rfl) (by kernel_rfl) (by kernel_rfl) (fun _ _ _ h => h) (Or.inl ⟨by rfl, (by intro wz hSz; (try dsimp only at hSz); go_simp)⟩) hHeld ?_; try simp only [Act.put, List.getElem_toArray, List.getElem_cons_succ, List.getElem_cons_zero, List.setIfInBounds_toArray, List.set_cons_zero, List.set_cons_succ]; refine wpAnyT_take (i := 5) (v := .pointer (some ⟨w.heap.size + 1, 1, none⟩)) rfl (by kernel_rfl) (by kernel_rfl) (by kernel_rfl) (by kernel_rfl) (fun _ _ _ h => h) (Or.inl ⟨by rfl, (by intro wz hSz; (try dsimp only at hSz); go_simp)⟩) hHeld ?_; try simp only [Act.put, List.getElem_toArray, List.getElem_cons_succ, List.getElem_cons_zero, List.setIfInBounds_toArray, List.set_cons_zero, List.set_cons_succ]; refine wpAnyT_take (i := 6) (v := .int .i64 (i : Int)) rfl (by kernel_rfl) (by kernel_rfl) (by kernel_rfl) (by kernel_rfl) (fun _ _ _ h => h) (Or.inl ⟨by rfl, (by intro wz hSz; (try dsimp only at hSz); go_simp)⟩) hHeld ?_; try simp only [Act.put, List.getElem_toArray, List.getElem_cons_succ, List.getElem_cons_zero, List.setIfInBounds_toArray, List.set_cons_zero, List.set_cons_succ]; refine wpAnyT_take (i := 7) (v := .pointer (some ⟨w.heap.size + 1, 1, none⟩)) rfl (by kernel_rfl) (by kernel_rfl) (by kernel_rfl) (by kernel_rfl) (fun _ _ _ h => h) (Or.inl ⟨by rfl, (by intro wz hSz; (try dsimp only at hSz); go_simp)⟩) hHeld ?_; try simp only [Act.put, List.getElem_toArray, List.getElem_cons_succ, List.getElem_cons_zero, List.setIfInBounds_toArray, List.set_cons_zero, List.set_cons_succ]; refine wpAnyT_take (i := 8) (v := .int .i64 (i : Int)) rfl (by kernel_rfl) (by kernel_rfl) (by kernel_rfl) (by kernel_rfl) (fun _ _ _ h => h) (Or.inl ⟨by rfl, (by intro wz hSz; (try dsimp only at hSz); go_simp)⟩) hHeld ?_; try simp only [Act.put, List.getElem_toArray, List.getElem_cons_succ, List.getElem_cons_zero, List.setIfInBounds_toArray, List.set_cons_zero, List.set_cons_succ]; refine wpAnyT_take (i := 9) (v := .int .i64 ((i : Int) + 1)) rfl (by kernel_rfl) (by kernel_rfl) (by kernel_rfl) (by kernel_rfl) (fun _ _ _ h => h) (Or.inl ⟨by rfl, (by intro wz hSz; (try dsimp only at hSz); go_simp)⟩) hHeld ?_; try simp only [Act.put, List.getElem_toArray, List.getElem_cons_succ, List.getElem_cons_zero, List.setIfInBounds_toArray, List.set_cons_zero, List.set_cons_succ]
  refine wpAnyT_one (i := 10) (by kernel_rfl) rfl (fun K hK => ?_)
  go_simp
  go_at_call 80
  (with_reducible refine (KB.out V.drew OD.out).mono ?_)
  rintro r w4 ⟨rfl, oB, gr⟩
  go_wp2_with fail
  refine hK.out _ _ (fun _ b o h1 h2 => (gr.cell_far ⟨b, o, none⟩ (by show b < V.heap.size; omega) (fun e => hHor.out b h1 h2 (by injection e)))) (fun hH => ?_)
  have hHeld := hH rfl
  clear hK K hH
  try simp only [Act.put, List.setIfInBounds_toArray, List.set_cons_zero, List.set_cons_succ]
  refine wpAnyT_take (i := 11) (v := .pointer (some ⟨w.heap.size, 6, none⟩)) rfl (by kernel_rfl) (by kernel_rfl) (by kernel_rfl) (by kernel_rfl) (fun _ _ _ h => h) (Or.inl ⟨by rfl, (by intro wz hSz; (try dsimp only at hSz); go_simp)⟩) hHeld ?_; try simp only [Act.put, List.getElem_toArray, List.getElem_cons_succ, List.getElem_cons_zero, List.setIfInBounds_toArray, List.set_cons_zero, List.set_cons_succ]; refine wpAnyT_take (i := 12) (v := .pointer (some ⟨w.heap.size, 9, none⟩)) rfl (by kernel_rfl) (by kernel_rfl) (by kernel_rfl) (by kernel_rfl) (fun _ _ _ h => h) (Or.inl ⟨by rfl, (by intro wz hSz; (try dsimp only at hSz); go_simp)⟩) hHeld ?_; try simp only [Act.put, List.getElem_toArray, List.getElem_cons_succ, List.getElem_cons_zero, List.setIfInBounds_toArray, List.set_cons_zero, List.set_cons_succ]
  clear hHeld
  replace h := (h.drew_ 1).delB hi oB gr
  have lx := h.lt
  clear a0 a1 a2 a3 a4 a5 a6 a7 a8 a9 a10 a11 y0 y1 y2 y3 y4 y5 y6 y7 y8 y9 y10 y11 y12 f9
  have a9 := h.cx 9 _ rfl
  have f9 := h.fx 9
  refine wpAnyT_one (i := 13) (by kernel_rfl) rfl (fun K hK => ?_)
  go_simp
  refine hK.out _ _ (fun e => by cases e) (fun hH => ?_)
  clear hK K hH
  try simp only [Act.put, List.setIfInBounds_toArray, List.set_cons_zero, List.set_cons_succ]
  refine wpAnyT_end (by kernel_rfl) ?_ _
  go_upto_region 35 with fail
  clear a9 f9 OB gr oB KB
  replace h := (h.put 9 (.slice (some ⟨gB, 0, none⟩) (s.bs.length - 1) d)); obtain ⟨U, hUe⟩ : ∃ U, U = (w4.setCell ⟨w.heap.size, 9, none⟩ (.slice (some ⟨gB, 0, none⟩) (s.bs.length - 1) d)) := ⟨_, rfl⟩; rw [← hUe] at h; rw [← hUe]; clear hUe; replace lx := h.lt
  obtain ⟨i0, hi, hz0, hz1, hz2⟩ := info_parts infoEv
  have OL : Hid (U.ownsRow base 38 13 (.slice L s.log.length q) s.log.length (flat evC s.log)) := Lib.hid h.own.2.2.1
  have HSL := Lib.hid h
  have a0 := h.cx 0 _ rfl; have a1 := h.cx 1 _ rfl; have a2 := h.cx 2 _ rfl; have a3 := h.cx 3 _ rfl; have a4 := h.cx 4 _ rfl; have a5 := h.cx 5 _ rfl; have a6 := h.cx 6 _ rfl; have a7 := h.cx 7 _ rfl; have a8 := h.cx 8 _ rfl; have a9 := h.cx 9 _ rfl; have a10 := h.cx 10 _ rfl; have a11 := h.cx 11 _ rfl
  have y0 := h.cy 0 _ rfl; have y1 := h.cy 1 _ rfl; have y2 := h.cy 2 _ rfl; have y3 := h.cy 3 _ rfl; have y4 := h.cy 4 _ rfl; have y5 := h.cy 5 _ rfl; have y6 := h.cy 6 _ rfl; have y7 := h.cy 7 _ rfl; have y8 := h.cy 8 _ rfl; have y9 := h.cy 9 _ rfl; have y10 := h.cy 10 _ rfl; have y11 := h.cy 11 _ rfl; have y12 := h.cy 12 _ rfl
  have bx : base ≤ w.heap.size := h.bx
  go_wp2_with (at_builtin; refine wpList_append_own_at _ rfl _ _ 32 rfl base 38 i0 (.agg #[.int .i64 0, .int .i64 0, .complex .f32 0 0, .complex .f32 0 0, .complex .f32 0 0, .complex .f32 0 0, .float .f32 0, .float .f32 0, .float .f32 0, .float .f32 0, .float .f32 0, .float .f32 0, .float .f32 0]) 13 80 Tryz.underlying32 hi hz0 hz1 hz2 rfl (by decide) _ _ _ rfl (OL.out.alloc _) ⟨U.heap.size, 0, none⟩ 1 1 (evC e) rfl rfl ?c1 ?c2 ?c3 ?c4 ?c5 ?_; (case c1 => exact World.news_of_block (cs := #[.int .i64 e.k, .int .i64 e.n, .complex .f32 e.z.1 e.z.2, .complex .f32 e.s.1.1 e.s.1.2, .complex .f32 e.s.2.1.1 e.s.2.1.2, .complex .f32 e.s.2.2.1.1 e.s.2.2.1.2, .float .f32 e.s.2.2.2.1.1, .float .f32 e.s.2.2.2.1.2.1, .float .f32 e.s.2.2.2.1.2.2, .float .f32 e.s.2.2.2.2, .float .f32 e.c.1, .float .f32 e.c.2.1, .float .f32 e.c.2.2]) (t := 38) (fr := (0, 0)) (heap_alloc_new U _)); (case c2 => simp [evC, Value.oneCell']); (case c3 => unfold maxLen; omega); (case c4 => omega); (case c5 => simp only [World.size_alloc]; omega); intro v3 w3 hown3 hg3 hne3 hat3; obtain ⟨L3, q3, rfl, h3⟩ := HSL.out.appL _ e hown3 hg3 hat3; have H3 := Lib.hid h3; have a0 := h3.cx 0 _ rfl; have a1 := h3.cx 1 _ rfl; have a2 := h3.cx 2 _ rfl; have a3 := h3.cx 3 _ rfl; have a4 := h3.cx 4 _ rfl; have a5 := h3.cx 5 _ rfl; have a6 := h3.cx 6 _ rfl; have a7 := h3.cx 7 _ rfl; have a8 := h3.cx 8 _ rfl; have a9 := h3.cx 9 _ rfl; have a10 := h3.cx 10 _ rfl; have a11 := h3.cx 11 _ rfl; have f0 := h3.fx 0; have f1 := h3.fx 1; have f2 := h3.fx 2; have f3 := h3.fx 3; have f4 := h3.fx 4; have f5 := h3.fx 5; have f6 := h3.fx 6; have f7 := h3.fx 7; have f8 := h3.fx 8; have f9 := h3.fx 9; have f10 := h3.fx 10; have f11 := h3.fx 11; have o0 := h3.co 0 _ rfl; have o1 := h3.co 1 _ rfl; have o2 := h3.co 2 _ rfl; have o3 := h3.co 3 _ rfl; have o4 := h3.co 4 _ rfl; have o5 := h3.co 5 _ rfl; have o6 := h3.co 6 _ rfl; have o7 := h3.co 7 _ rfl; have o8 := h3.co 8 _ rfl; have o9 := h3.co 9 _ rfl; have o10 := h3.co 10 _ rfl; have o11 := h3.co 11 _ rfl; have fo : FA w3 (w.heap.size + 1 + 1) := h3.fo; have g0 := fo 0; have g1 := fo 1; have g2 := fo 2; have g3 := fo 3; have g4 := fo 4; have g5 := fo 5; have g6 := fo 6; have g7 := fo 7; have g8 := fo 8; have g9 := fo 9; have g10 := fo 10; have g11 := fo 11; have lx := h3.lt; clear HSL hown3 hg3 hne3 hat3 h3 fo)
  have hz := ((((((((((((H3.out.put 11 (.slice L3 (s.log.length + 1) q3)).puto 0 (.int .i64 (({ s with sh := s.sh.eraseIdx i, bs := s.bs.eraseIdx i } : Shw)).sz)).puto 1 (.float .f32 (({ s with sh := s.sh.eraseIdx i, bs := s.bs.eraseIdx i } : Shw)).st)).puto 2 (.float .f32 (({ s with sh := s.sh.eraseIdx i, bs := s.bs.eraseIdx i } : Shw)).li.1)).puto 3 (.float .f32 (({ s with sh := s.sh.eraseIdx i, bs := s.bs.eraseIdx i } : Shw)).li.2.1)).puto 4 (.float .f32 (({ s with sh := s.sh.eraseIdx i, bs := s.bs.eraseIdx i } : Shw)).li.2.2)).puto 5 (.slice (some ⟨gA, 0, none⟩) (s.sh.length - 1) c)).puto 6 (.int .i64 (({ s with sh := s.sh.eraseIdx i, bs := s.bs.eraseIdx i } : Shw)).mir)).puto 7 (.complex .f32 (({ s with sh := s.sh.eraseIdx i, bs := s.bs.eraseIdx i } : Shw)).gr.1 (({ s with sh := s.sh.eraseIdx i, bs := s.bs.eraseIdx i } : Shw)).gr.2)).puto 8 (.float .f32 (({ s with sh := s.sh.eraseIdx i, bs := s.bs.eraseIdx i } : Shw)).loss)).puto 9 (.slice (some ⟨gB, 0, none⟩) (s.bs.length - 1) d)).puto 10 (.int .i64 (({ s with sh := s.sh.eraseIdx i, bs := s.bs.eraseIdx i } : Shw)).tk)).puto 11 (.slice L3 (s.log.length + 1) q3)
  have co : CA _ (w.heap.size + 1 + 1) _ := hz.co
  have own := hz.own
  have bel := hz.bel
  have hin := And.intro hz.iA (And.intro hz.iB hz.iL)
  clear hz H3
  have z0 := co 0 _ rfl; have z1 := co 1 _ rfl; have z2 := co 2 _ rfl; have z3 := co 3 _ rfl; have z4 := co 4 _ rfl; have z5 := co 5 _ rfl; have z6 := co 6 _ rfl; have z7 := co 7 _ rfl; have z8 := co 8 _ rfl; have z9 := co 9 _ rfl; have z10 := co 10 _ rfl; have z11 := co 11 _ rfl
  refine bodyPost_ret (v := .tuple #[.agg #[.int .i64 (({ s with sh := s.sh.eraseIdx i, bs := s.bs.eraseIdx i } : Shw)).sz, .float .f32 (({ s with sh := s.sh.eraseIdx i, bs := s.bs.eraseIdx i } : Shw)).st, .float .f32 (({ s with sh := s.sh.eraseIdx i, bs := s.bs.eraseIdx i } : Shw)).li.1, .float .f32 (({ s with sh := s.sh.eraseIdx i, bs := s.bs.eraseIdx i } : Shw)).li.2.1, .float .f32 (({ s with sh := s.sh.eraseIdx i, bs := s.bs.eraseIdx i } : Shw)).li.2.2, .slice (some ⟨gA, 0, none⟩) (s.sh.length - 1) c, .int .i64 (({ s with sh := s.sh.eraseIdx i, bs := s.bs.eraseIdx i } : Shw)).mir, .complex .f32 (({ s with sh := s.sh.eraseIdx i, bs := s.bs.eraseIdx i } : Shw)).gr.1 (({ s with sh := s.sh.eraseIdx i, bs := s.bs.eraseIdx i } : Shw)).gr.2, .float .f32 (({ s with sh := s.sh.eraseIdx i, bs := s.bs.eraseIdx i } : Shw)).loss, .slice (some ⟨gB, 0, none⟩) (s.bs.length - 1) d, .int .i64 (({ s with sh := s.sh.eraseIdx i, bs := s.bs.eraseIdx i } : Shw)).tk, .slice L3 (s.log.length + 1) q3], .bool true]) (by simp [results, Tryz.results33, go_sem, z0, z1, z2, z3, z4, z5, z6, z7, z8, z9, z10, z11]) rfl ⟨hapI_yes (t := ({ s with sh := s.sh.eraseIdx i, bs := s.bs.eraseIdx i } : Shw)) ?_ own hin (by simp [EE.out.1, EE.out.2]), bel⟩
  rw [HE.out]
  simp only [hap]
  rw [if_pos hii, Int.toNat_natCast]
end Go.Proofs.YthlphmojldbpkaaGreat
