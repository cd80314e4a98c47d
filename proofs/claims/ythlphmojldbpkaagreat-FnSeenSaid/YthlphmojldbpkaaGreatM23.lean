/- SDoT · SMir · Run2 · TumR · Turn · TumT -/
import Derived.Test.YthlphmojldbpkaaGreatM16
import Derived.Test.YthlphmojldbpkaaGreatM1
import Derived.Test.YthlphmojldbpkaaGreatM3
import Derived.Test.YthlphmojldbpkaaGreatM8
import Derived.Deep.RegionHeld3
import Derived.Deep.RegionLaw
import Derived.Deep.QuietTactic
import Derived.BigQuiet
import Derived.Test.YthlphmojldbpkaaGreatHapM
import Derived.Test.YthlphmojldbpkaaGreatM15

/- l6Do: the specification's, a bead is taken out. -/
namespace Go.Proofs.YthlphmojldbpkaaGreat
open Go.RowKit
attribute [local go_sem] run_store_float run_store_complex



set_option maxRecDepth 100000 in
set_option maxHeartbeats 40000000 in
theorem sDo_take (s : Shw) (e : Ev) (i : Nat) (he : e = .take (i : Int)) (hi : i < s.bs.length) (hl : s.bs.length = s.sh.length) (hm : s.bs.length ≤ 1000) (A B L : Option Addr) (c d q base : Nat) (w : World) (hb : base ≤ w.heap.size) (own : OwnS w base s A B L c d q) :
    Calls Tryz.prog 100 #[.agg #[.int .i64 s.sz, .float .f32 s.st, .float .f32 s.li.1, .float .f32 s.li.2.1, .float .f32 s.li.2.2, .slice A s.sh.length c, .int .i64 s.mir, .complex .f32 s.gr.1 s.gr.2, .float .f32 s.loss, .slice B s.bs.length d, .int .i64 s.tk, .slice L s.log.length q], .agg #[.int .i64 e.k, .int .i64 e.n, .complex .f32 e.z.1 e.z.2, .complex .f32 e.s.1.1 e.s.1.2, .complex .f32 e.s.2.1.1 e.s.2.1.2, .complex .f32 e.s.2.2.1.1 e.s.2.2.1.2, .float .f32 e.s.2.2.2.1.1, .float .f32 e.s.2.2.2.1.2.1, .float .f32 e.s.2.2.2.1.2.2, .float .f32 e.s.2.2.2.2, .float .f32 e.c.1, .float .f32 e.c.2.1, .float .f32 e.c.2.2]] w fun r w' => SHap s e base (OwnB s A B L c d q) w.heap.size r w' ∧ BelF base (OwnB s A B L c d q) w w' := by
  have k1 : (e.k == 1) = false := by rw [he]; rfl
  have k2 : (e.k == 2) = true := by rw [he]; rfl
  have en : e.n = (i : Int) := by rw [he]; rfl
  have hii : (i : Int) < (s.bs.length : Int) := by omega
  have hi0 : (0 : Int) ≤ (i : Int) := by omega
  have hge : decide ((s.bs.length : Int) ≤ (i : Int)) = false := by simp; omega
  have hj : i < s.sh.length := by omega
  have hs : s.sh.length ≤ 1000 := by omega
  have E1 : (s.sh.eraseIdx i).length = s.sh.length - 1 := List.length_eraseIdx_of_lt hj
  have E2 : (s.bs.eraseIdx i).length = s.bs.length - 1 := List.length_eraseIdx_of_lt hi
  have EE := Lib.hid (And.intro E1 E2)
  have ht : hap s e = some { s with sh := s.sh.eraseIdx i, bs := s.bs.eraseIdx i } := by
    rw [he]
    simp only [hap]
    rw [if_pos hii, Int.toNat_natCast]
  have hw1 : IntKind.i64.wrap ((i : Int) + 1) = (i : Int) + 1 := by rw [IntKind.wrap_i64] <;> omega
  have hp0 : (0 : Int) ≤ (i : Int) + 1 := by omega
  have hp2 : ((i : Int) + 1).toNat = i + 1 := by omega
  have HT := Lib.hid ht
  have EN := Lib.hid en
  clear en E1 E2 hl ht he
  have OWN := Lib.hid own
  clear own
  go_enter Tryz.func100, Tryz.ntmps100
  go_upto_region 1 with fail
  have h := hs_new e hb OWN.out #[.int .i64 s.sz, .float .f32 s.st, .float .f32 s.li.1, .float .f32 s.li.2.1, .float .f32 s.li.2.2, .slice A s.sh.length c, .int .i64 s.mir, .complex .f32 s.gr.1 s.gr.2, .float .f32 s.loss, .slice B s.bs.length d, .int .i64 s.tk, .slice L s.log.length q] #[.int .i64 0, .float .f32 0, .float .f32 0, .float .f32 0, .float .f32 0, .slice none 0 0, .int .i64 0, .complex .f32 0 0, .float .f32 0, .slice none 0 0, .int .i64 0, .slice none 0 0] 34 38 34 rfl rfl #[.int .i64 e.k, .int .i64 e.n, .complex .f32 e.z.1 e.z.2, .complex .f32 e.s.1.1 e.s.1.2, .complex .f32 e.s.2.1.1 e.s.2.1.2, .complex .f32 e.s.2.2.1.1 e.s.2.2.1.2, .float .f32 e.s.2.2.2.1.1, .float .f32 e.s.2.2.2.1.2.1, .float .f32 e.s.2.2.2.1.2.2, .float .f32 e.s.2.2.2.2, .float .f32 e.c.1, .float .f32 e.c.2.1, .float .f32 e.c.2.2] rfl
  obtain ⟨W, hWe⟩ : ∃ W, W = ((w.alloc (Obj.cells #[.int .i64 s.sz, .float .f32 s.st, .float .f32 s.li.1, .float .f32 s.li.2.1, .float .f32 s.li.2.2, .slice A s.sh.length c, .int .i64 s.mir, .complex .f32 s.gr.1 s.gr.2, .float .f32 s.loss, .slice B s.bs.length d, .int .i64 s.tk, .slice L s.log.length q] 34)).alloc (Obj.cells #[.int .i64 e.k, .int .i64 e.n, .complex .f32 e.z.1 e.z.2, .complex .f32 e.s.1.1 e.s.1.2, .complex .f32 e.s.2.1.1 e.s.2.1.2, .complex .f32 e.s.2.2.1.1 e.s.2.2.1.2, .float .f32 e.s.2.2.2.1.1, .float .f32 e.s.2.2.2.1.2.1, .float .f32 e.s.2.2.2.1.2.2, .float .f32 e.s.2.2.2.2, .float .f32 e.c.1, .float .f32 e.c.2.1, .float .f32 e.c.2.2] 38)).alloc (Obj.cells #[.int .i64 0, .float .f32 0, .float .f32 0, .float .f32 0, .float .f32 0, .slice none 0 0, .int .i64 0, .complex .f32 0 0, .float .f32 0, .slice none 0 0, .int .i64 0, .slice none 0 0] 34) := ⟨_, rfl⟩
  rw [← hWe] at h
  rw [← hWe]
  clear hWe hb OWN
  have lx := h.lt
  have a0 := h.cx 0 _ rfl; have a1 := h.cx 1 _ rfl; have a2 := h.cx 2 _ rfl; have a3 := h.cx 3 _ rfl; have a4 := h.cx 4 _ rfl; have a5 := h.cx 5 _ rfl; have a6 := h.cx 6 _ rfl; have a7 := h.cx 7 _ rfl; have a8 := h.cx 8 _ rfl; have a9 := h.cx 9 _ rfl; have a10 := h.cx 10 _ rfl; have a11 := h.cx 11 _ rfl
  have y0 := h.cy 0 _ rfl; have y1 := h.cy 1 _ rfl; have y2 := h.cy 2 _ rfl; have y3 := h.cy 3 _ rfl; have y4 := h.cy 4 _ rfl; have y5 := h.cy 5 _ rfl; have y6 := h.cy 6 _ rfl; have y7 := h.cy 7 _ rfl; have y8 := h.cy 8 _ rfl; have y9 := h.cy 9 _ rfl; have y10 := h.cy 10 _ rfl; have y11 := h.cy 11 _ rfl; have y12 := h.cy 12 _ rfl
  rw [EN.out] at y1
  have ownA : (W).ownsRow base 36 7 (.slice A s.sh.length c) s.sh.length (flat shC s.sh) := h.own.1
  obtain ⟨gA, ea, hncA, hcmA⟩ := owns_slice_at ownA (by omega)
  subst ea
  unfold maxLen at hcmA
  have rdA := Rd.of_own shC_len rfl ownA
  have hNA := del_news shC_len (i := i) (by omega) rdA
  obtain ⟨mvA, hmvA⟩ : ∃ mv, mv = flat shC (s.sh.drop (i + 1)) := ⟨_, rfl⟩
  rw [← hmvA] at hNA
  have hmlA : mvA.length = (s.sh.length - (i + 1)) * 7 := by rw [hmvA, flat_length shC_len, List.length_drop]
  have s1A := Lib.hid hmlA
  have s2A : Hid (∀ u ∈ mvA, u.oneCell' = true) := Lib.hid (by rw [hmvA]; exact shC_one _)
  have s3A : Hid (∀ j, j < mvA.length → ((W).drew.cell? ⟨gA, 0 + i * 7 + j, none⟩).isSome = true ∧ (W).drew.frozen? ⟨gA, 0 + i * 7 + j, none⟩ = false) := Lib.hid (by
    intro j hj'
    rw [hmlA] at hj'
    obtain ⟨v, hv⟩ := owns_cell ownA (i * 7 + j) (by omega)
    rw [Nat.zero_add]
    exact ⟨by show ((W).cell? _).isSome = true; rw [hv]; rfl, ownA.frozenAt _⟩)
  have DA := Lib.hid (del_own (w := (W).drew) shC_len (own_drewN ownA 1) rfl (by omega))
  rw [← hmvA] at DA
  have hnewsA : Hid (∀ A : Addr, (A = ⟨gA, (i + 1) * 7, none⟩ ∨ c = i + 1) → ∀ j u, mvA[j]? = some u → (W).drew.cell? (A.add j) = some u) := Lib.hid (by
    intro A hA j u hu
    rcases hA with rfl | hA
    · rw [Addr.add_lit]; exact hNA j u hu
    · have := (List.getElem?_eq_some_iff.1 hu).1
      rw [hmlA] at this
      have : (s.sh.length - (i + 1)) = 0 := by omega
      rw [this] at *
      omega)
  obtain ⟨AvA, hAA, hAnA⟩ : ∃ A : Addr, (if c = i + 1 then some (⟨gA, 0, none⟩ : Addr) else some ⟨gA, (i + 1) * 7, none⟩) = some A ∧ (A = ⟨gA, (i + 1) * 7, none⟩ ∨ c = i + 1) := by
    by_cases h : c = i + 1
    · exact ⟨_, by rw [if_pos h], .inr h⟩
    · exact ⟨_, by rw [if_neg h], .inl rfl⟩
  have horA : ∀ b, w.heap.size ≤ b → b ≤ w.heap.size + 1 → b ≠ gA := fun b h1 h2 e => h.oA b h1 (by omega) (by rw [e]; rfl)
  have HOA := Lib.hid horA
  clear hmvA hmlA hNA rdA ownA horA

  have f5 := h.fx 5
  have hpA1 : (i : Int) + 1 ≤ (s.sh.length : Int) := by omega
  have hpA3 : i + (s.sh.length - (i + 1)) = s.sh.length - 1 := by omega
  have hpA4 : (i : Int) ≤ (s.sh.length : Int) := by omega
  have hpA5 : i ≤ c := by omega
  have lx0 : w.heap.size < W.heap.size := by omega
  go_upto_region 11 with fail
  refine wp_region_T (fun v => ∀ b o, w.heap.size ≤ b → b ≤ w.heap.size + 1 → v.cell? ⟨b, o, none⟩ = W.cell? ⟨b, o, none⟩) (fun j => decide (13 ≤ j)) (by kernel_rfl) (fun _ _ _ _ => rfl) (fun hHeld => ?_)
  refine wpAnyT_take (i := 0) (v := .pointer (some ⟨w.heap.size, 5, none⟩)) rfl (by kernel_rfl) (by kernel_rfl) (by kernel_rfl) (by kernel_rfl) (fun _ _ _ h => h) (Or.inl ⟨by rfl, (by intro wz hSz; (try dsimp only at hSz); go_simp)⟩) hHeld ?_; try simp only [Act.put, List.getElem_toArray, List.getElem_cons_zero, List.setIfInBounds_toArray, List.set_cons_zero, List.set_cons_succ]; refine wpAnyT_take (i := 1) (v := .slice (some ⟨gA, 0, none⟩) s.sh.length c) rfl (by kernel_rfl) (by kernel_rfl) (by kernel_rfl) (by kernel_rfl) (fun _ _ _ h => h) (Or.inl ⟨by rfl, (by intro wz hSz; (try dsimp only at hSz); go_simp)⟩) hHeld ?_; try simp only [Act.put, List.getElem_toArray, List.getElem_cons_succ, List.getElem_cons_zero, List.setIfInBounds_toArray, List.set_cons_zero, List.set_cons_succ]; refine wpAnyT_take (i := 2) (v := .pointer (some ⟨w.heap.size + 1, 1, none⟩)) rfl (by kernel_rfl) (by kernel_rfl) (by kernel_rfl) (by kernel_rfl) (fun _ _ _ h => h) (Or.inl ⟨by rfl, (by intro wz hSz; (try dsimp only at hSz); go_simp)⟩) hHeld ?_; try simp only [Act.put, List.getElem_toArray, List.getElem_cons_succ, List.getElem_cons_zero, List.setIfInBounds_toArray, List.set_cons_zero, List.set_cons_succ]; refine wpAnyT_take (i := 3) (v := .int .i64 (i : Int)) rfl (by kernel_rfl) (by kernel_rfl) (by kernel_rfl) (by kernel_rfl) (fun _ _ _ h => h) (Or.inl ⟨by rfl, (by intro wz hSz; (try dsimp only at hSz); go_simp)⟩) hHeld ?_; try simp only [Act.put, List.getElem_toArray, List.getElem_cons_succ, List.getElem_cons_zero, List.setIfInBounds_toArray, List.set_cons_zero, List.set_cons_succ]; refine wpAnyT_take (i := 4) (v := .slice (some ⟨gA, 0, none⟩) i c) rfl (by kernel_rfl) (by kernel_rfl) (by kernel_rfl) (by kernel_rfl) (fun _ _ _ h => h) (Or.inl ⟨by rfl, (by intro wz hSz; (try dsimp only at hSz); go_simp)⟩) hHeld ?_; try simp only [Act.put, List.getElem_toArray, List.getElem_cons_succ, List.getElem_cons_zero, List.setIfInBounds_toArray, List.set_cons_zero, List.set_cons_succ]; refine wpAnyT_take (i := 5) (v := .pointer (some ⟨w.heap.size, 5, none⟩)) rfl (by kernel_rfl) (by kernel_rfl) (by kernel_rfl) (by kernel_rfl) (fun _ _ _ h => h) (Or.inl ⟨by rfl, (by intro wz hSz; (try dsimp only at hSz); go_simp)⟩) hHeld ?_; try simp only [Act.put, List.getElem_toArray, List.getElem_cons_succ, List.getElem_cons_zero, List.setIfInBounds_toArray, List.set_cons_zero, List.set_cons_succ]; refine wpAnyT_take (i := 6) (v := .slice (some ⟨gA, 0, none⟩) s.sh.length c) rfl (by kernel_rfl) (by kernel_rfl) (by kernel_rfl) (by kernel_rfl) (fun _ _ _ h => h) (Or.inl ⟨by rfl, (by intro wz hSz; (try dsimp only at hSz); go_simp)⟩) hHeld ?_; try simp only [Act.put, List.getElem_toArray, List.getElem_cons_succ, List.getElem_cons_zero, List.setIfInBounds_toArray, List.set_cons_zero, List.set_cons_succ]; refine wpAnyT_take (i := 7) (v := .pointer (some ⟨w.heap.size + 1, 1, none⟩)) rfl (by kernel_rfl) (by kernel_rfl) (by kernel_rfl) (by kernel_rfl) (fun _ _ _ h => h) (Or.inl ⟨by rfl, (by intro wz hSz; (try dsimp only at hSz); go_simp)⟩) hHeld ?_; try simp only [Act.put, List.getElem_toArray, List.getElem_cons_succ, List.getElem_cons_zero, List.setIfInBounds_toArray, List.set_cons_zero, List.set_cons_succ]; refine wpAnyT_take (i := 8) (v := .int .i64 (i : Int)) rfl (by kernel_rfl) (by kernel_rfl) (by kernel_rfl) (by kernel_rfl) (fun _ _ _ h => h) (Or.inl ⟨by rfl, (by intro wz hSz; (try dsimp only at hSz); go_simp)⟩) hHeld ?_; try simp only [Act.put, List.getElem_toArray, List.getElem_cons_succ, List.getElem_cons_zero, List.setIfInBounds_toArray, List.set_cons_zero, List.set_cons_succ]; refine wpAnyT_take (i := 9) (v := .int .i64 ((i : Int) + 1)) rfl (by kernel_rfl) (by kernel_rfl) (by kernel_rfl) (by kernel_rfl) (fun _ _ _ h => h) (Or.inl ⟨by rfl, (by intro wz hSz; (try dsimp only at hSz); go_simp)⟩) hHeld ?_; try simp only [Act.put, List.getElem_toArray, List.getElem_cons_succ, List.getElem_cons_zero, List.setIfInBounds_toArray, List.set_cons_zero, List.set_cons_succ]; refine wpAnyT_take (i := 10) (v := .slice (some AvA) (s.sh.length - (i + 1)) (c - (i + 1))) rfl (by kernel_rfl) (by kernel_rfl) (by kernel_rfl) (by kernel_rfl) (fun _ _ _ h => h) (Or.inl ⟨by rfl, (by intro wz hSz; (try dsimp only at hSz); go_simp)⟩) hHeld ?_; try simp only [Act.put, List.getElem_toArray, List.getElem_cons_succ, List.getElem_cons_zero, List.setIfInBounds_toArray, List.set_cons_zero, List.set_cons_succ]
  obtain ⟨i0, hi0', hz0, hz1, hz2⟩ := info_parts infoShd
  refine wpAnyT_one (i := 11) (by kernel_rfl) rfl (fun K hK => ?_)
  refine step_append_room rfl (.tmp 59) (.tmp 65) 27 rfl 36 i0 7 Tryz.underlying27 hi0' hz1 gA 0 i c (by simp [Act.eval]) AvA (s.sh.length - (i + 1)) (c - (i + 1)) mvA (by simp [Act.eval]) s1A.out (hnewsA.out AvA hAnA) s2A.out (by omega) s3A.out ?_
  have gr : W.drew.grownBy (W.drew.setCells gA (0 + i * 7) mvA) (some gA) := grown_setCells _ _ _ (World.grownBy.refl _ _)
  refine hK.out _ _ (fun _ b o h1 h2 => (gr.cell_far ⟨b, o, none⟩ (by show b < W.heap.size; omega) (fun e => HOA.out b h1 h2 (by injection e)))) (fun hH => ?_)
  have hHeld := hH rfl
  clear hK K hH
  try simp only [Act.put, List.getElem_toArray, List.getElem_cons_succ, List.getElem_cons_zero, List.setIfInBounds_toArray, List.set_cons_zero, List.set_cons_succ]
  refine wpAnyT_take (i := 12) (v := .pointer (some ⟨w.heap.size, 5, none⟩)) rfl (by kernel_rfl) (by kernel_rfl) (by kernel_rfl) (by kernel_rfl) (fun _ _ _ h => h) (Or.inl ⟨by rfl, (by intro wz hSz; (try dsimp only at hSz); go_simp)⟩) hHeld ?_; try simp only [Act.put, List.getElem_toArray, List.getElem_cons_succ, List.getElem_cons_zero, List.setIfInBounds_toArray, List.set_cons_zero, List.set_cons_succ]
  clear hHeld
  rw [Nat.zero_add] at gr
  rw [Nat.zero_add, hpA3]
  replace h := (h.drew_ 1).delA hj DA.out gr
  obtain ⟨X, hXe⟩ : ∃ X, X = W.drew.setCells gA (i * 7) mvA := ⟨_, rfl⟩
  replace h : HS w (OwnB s (some ⟨gA, 0, none⟩) B L c d q) base w.heap.size e (shwL s (some ⟨gA, 0, none⟩) B L s.sh.length c s.bs.length d s.log.length q) shw0 { s with sh := s.sh.eraseIdx i } (some ⟨gA, 0, none⟩) B L c d q X := by rw [hXe]; exact h
  rw [← hXe]
  clear hXe gr DA s1A s2A s3A hnewsA hAA hAnA a0 a1 a2 a3 a4 a5 a6 a7 a8 a9 a10 a11 y0 y1 y2 y3 y4 y5 y6 y7 y8 y9 y10 y11 y12 f5 lx lx0
  have lx := h.lt
  have lx0 : w.heap.size < X.heap.size := by omega
  have a5 := h.cx 5 _ rfl
  have f5 := h.fx 5
  refine wpAnyT_one (i := 13) (by kernel_rfl) rfl (fun K hK => ?_)
  go_simp
  refine hK.out _ _ (fun e => by cases e) (fun hH => ?_)
  clear hK K hH
  try simp only [Act.put, List.setIfInBounds_toArray, List.set_cons_zero, List.set_cons_succ]
  refine wpAnyT_end (by kernel_rfl) ?_ _
  go_upto_region 12 with fail
  clear a5 f5 lx0
  replace h := (h.put 5 (.slice (some ⟨gA, 0, none⟩) (s.sh.length - 1) c)); obtain ⟨Y, hYe⟩ : ∃ Y, Y = (X.setCell ⟨w.heap.size, 5, none⟩ (.slice (some ⟨gA, 0, none⟩) (s.sh.length - 1) c)) := ⟨_, rfl⟩; rw [← hYe] at h; rw [← hYe]; clear hYe; replace lx := h.lt
  have ownB : (Y).ownsRow base 54 2 (.slice B s.bs.length d) s.bs.length (flat bdC s.bs) := h.own.2.1
  obtain ⟨gB, ea, hncB, hcmB⟩ := owns_slice_at ownB (by omega)
  subst ea
  unfold maxLen at hcmB
  have rdB := Rd.of_own bdC_len rfl ownB
  have hNB := del_news bdC_len (i := i) (by omega) rdB
  obtain ⟨mvB, hmvB⟩ : ∃ mv, mv = flat bdC (s.bs.drop (i + 1)) := ⟨_, rfl⟩
  rw [← hmvB] at hNB
  have hmlB : mvB.length = (s.bs.length - (i + 1)) * 2 := by rw [hmvB, flat_length bdC_len, List.length_drop]
  have s1B := Lib.hid hmlB
  have s2B : Hid (∀ u ∈ mvB, u.oneCell' = true) := Lib.hid (by rw [hmvB]; exact bdC_one _)
  have s3B : Hid (∀ j, j < mvB.length → ((Y).drew.cell? ⟨gB, 0 + i * 2 + j, none⟩).isSome = true ∧ (Y).drew.frozen? ⟨gB, 0 + i * 2 + j, none⟩ = false) := Lib.hid (by
    intro j hj'
    rw [hmlB] at hj'
    obtain ⟨v, hv⟩ := owns_cell ownB (i * 2 + j) (by omega)
    rw [Nat.zero_add]
    exact ⟨by show ((Y).cell? _).isSome = true; rw [hv]; rfl, ownB.frozenAt _⟩)
  have DB := Lib.hid (del_own (w := (Y).drew) bdC_len (own_drewN ownB 1) rfl (by omega))
  rw [← hmvB] at DB
  have hnewsB : Hid (∀ A : Addr, (A = ⟨gB, (i + 1) * 2, none⟩ ∨ d = i + 1) → ∀ j u, mvB[j]? = some u → (Y).drew.cell? (A.add j) = some u) := Lib.hid (by
    intro A hA j u hu
    rcases hA with rfl | hA
    · rw [Addr.add_lit]; exact hNB j u hu
    · have := (List.getElem?_eq_some_iff.1 hu).1
      rw [hmlB] at this
      have : (s.bs.length - (i + 1)) = 0 := by omega
      rw [this] at *
      omega)
  obtain ⟨AvB, hAB, hAnB⟩ : ∃ A : Addr, (if d = i + 1 then some (⟨gB, 0, none⟩ : Addr) else some ⟨gB, (i + 1) * 2, none⟩) = some A ∧ (A = ⟨gB, (i + 1) * 2, none⟩ ∨ d = i + 1) := by
    by_cases h : d = i + 1
    · exact ⟨_, by rw [if_pos h], .inr h⟩
    · exact ⟨_, by rw [if_neg h], .inl rfl⟩
  have horB : ∀ b, w.heap.size ≤ b → b ≤ w.heap.size + 1 → b ≠ gB := fun b h1 h2 e => h.oB b h1 (by omega) (by rw [e]; rfl)
  have HOB := Lib.hid horB
  clear hmvB hmlB hNB rdB ownB horB

  have f9 := h.fx 9
  have hpB1 : (i : Int) + 1 ≤ (s.bs.length : Int) := by omega
  have hpB3 : i + (s.bs.length - (i + 1)) = s.bs.length - 1 := by omega
  have hpB4 : (i : Int) ≤ (s.bs.length : Int) := by omega
  have hpB5 : i ≤ d := by omega
  have lx0 : w.heap.size < Y.heap.size := by omega
  have a0 := h.cx 0 _ rfl; have a1 := h.cx 1 _ rfl; have a2 := h.cx 2 _ rfl; have a3 := h.cx 3 _ rfl; have a4 := h.cx 4 _ rfl; have a5 := h.cx 5 _ rfl; have a6 := h.cx 6 _ rfl; have a7 := h.cx 7 _ rfl; have a8 := h.cx 8 _ rfl; have a9 := h.cx 9 _ rfl; have a10 := h.cx 10 _ rfl; have a11 := h.cx 11 _ rfl
  have y0 := h.cy 0 _ rfl; have y1 := h.cy 1 _ rfl; have y2 := h.cy 2 _ rfl; have y3 := h.cy 3 _ rfl; have y4 := h.cy 4 _ rfl; have y5 := h.cy 5 _ rfl; have y6 := h.cy 6 _ rfl; have y7 := h.cy 7 _ rfl; have y8 := h.cy 8 _ rfl; have y9 := h.cy 9 _ rfl; have y10 := h.cy 10 _ rfl; have y11 := h.cy 11 _ rfl; have y12 := h.cy 12 _ rfl
  rw [EN.out] at y1
  refine wp_region_T (fun v => ∀ b o, w.heap.size ≤ b → b ≤ w.heap.size + 1 → v.cell? ⟨b, o, none⟩ = Y.cell? ⟨b, o, none⟩) (fun j => decide (12 ≤ j)) (by kernel_rfl) (fun _ _ _ _ => rfl) (fun hHeld => ?_)
  refine wpAnyT_take (i := 0) (v := .slice (some ⟨gB, 0, none⟩) s.bs.length d) rfl (by kernel_rfl) (by kernel_rfl) (by kernel_rfl) (by kernel_rfl) (fun _ _ _ h => h) (Or.inl ⟨by rfl, (by intro wz hSz; (try dsimp only at hSz); go_simp)⟩) hHeld ?_; try simp only [Act.put, List.getElem_toArray, List.getElem_cons_zero, List.setIfInBounds_toArray, List.set_cons_zero, List.set_cons_succ]; refine wpAnyT_take (i := 1) (v := .pointer (some ⟨w.heap.size + 1, 1, none⟩)) rfl (by kernel_rfl) (by kernel_rfl) (by kernel_rfl) (by kernel_rfl) (fun _ _ _ h => h) (Or.inl ⟨by rfl, (by intro wz hSz; (try dsimp only at hSz); go_simp)⟩) hHeld ?_; try simp only [Act.put, List.getElem_toArray, List.getElem_cons_succ, List.getElem_cons_zero, List.setIfInBounds_toArray, List.set_cons_zero, List.set_cons_succ]; refine wpAnyT_take (i := 2) (v := .int .i64 (i : Int)) rfl (by kernel_rfl) (by kernel_rfl) (by kernel_rfl) (by kernel_rfl) (fun _ _ _ h => h) (Or.inl ⟨by rfl, (by intro wz hSz; (try dsimp only at hSz); go_simp)⟩) hHeld ?_; try simp only [Act.put, List.getElem_toArray, List.getElem_cons_succ, List.getElem_cons_zero, List.setIfInBounds_toArray, List.set_cons_zero, List.set_cons_succ]; refine wpAnyT_take (i := 3) (v := .slice (some ⟨gB, 0, none⟩) i d) rfl (by kernel_rfl) (by kernel_rfl) (by kernel_rfl) (by kernel_rfl) (fun _ _ _ h => h) (Or.inl ⟨by rfl, (by intro wz hSz; (try dsimp only at hSz); go_simp)⟩) hHeld ?_; try simp only [Act.put, List.getElem_toArray, List.getElem_cons_succ, List.getElem_cons_zero, List.setIfInBounds_toArray, List.set_cons_zero, List.set_cons_succ]; refine wpAnyT_take (i := 4) (v := .slice (some ⟨gB, 0, none⟩) s.bs.length d) rfl (by kernel_rfl) (by kernel_rfl) (by kernel_rfl) (by kernel_rfl) (fun _ _ _ h => h) (Or.inl ⟨by rfl, (by intro wz hSz; (try dsimp only at hSz); go_simp)⟩) hHeld ?_; try simp only [Act.put, List.getElem_toArray, List.getElem_cons_succ, List.getElem_cons_zero, List.setIfInBounds_toArray, List.set_cons_zero, List.set_cons_succ]; refine wpAnyT_take (i := 5) (v := .pointer (some ⟨w.heap.size + 1, 1, none⟩)) rfl (by kernel_rfl) (by kernel_rfl) (by kernel_rfl) (by kernel_rfl) (fun _ _ _ h => h) (Or.inl ⟨by rfl, (by intro wz hSz; (try dsimp only at hSz); go_simp)⟩) hHeld ?_; try simp only [Act.put, List.getElem_toArray, List.getElem_cons_succ, List.getElem_cons_zero, List.setIfInBounds_toArray, List.set_cons_zero, List.set_cons_succ]; refine wpAnyT_take (i := 6) (v := .int .i64 (i : Int)) rfl (by kernel_rfl) (by kernel_rfl) (by kernel_rfl) (by kernel_rfl) (fun _ _ _ h => h) (Or.inl ⟨by rfl, (by intro wz hSz; (try dsimp only at hSz); go_simp)⟩) hHeld ?_; try simp only [Act.put, List.getElem_toArray, List.getElem_cons_succ, List.getElem_cons_zero, List.setIfInBounds_toArray, List.set_cons_zero, List.set_cons_succ]; refine wpAnyT_take (i := 7) (v := .int .i64 ((i : Int) + 1)) rfl (by kernel_rfl) (by kernel_rfl) (by kernel_rfl) (by kernel_rfl) (fun _ _ _ h => h) (Or.inl ⟨by rfl, (by intro wz hSz; (try dsimp only at hSz); go_simp)⟩) hHeld ?_; try simp only [Act.put, List.getElem_toArray, List.getElem_cons_succ, List.getElem_cons_zero, List.setIfInBounds_toArray, List.set_cons_zero, List.set_cons_succ]; refine wpAnyT_take (i := 8) (v := .slice (some AvB) (s.bs.length - (i + 1)) (d - (i + 1))) rfl (by kernel_rfl) (by kernel_rfl) (by kernel_rfl) (by kernel_rfl) (fun _ _ _ h => h) (Or.inl ⟨by rfl, (by intro wz hSz; (try dsimp only at hSz); go_simp)⟩) hHeld ?_; try simp only [Act.put, List.getElem_toArray, List.getElem_cons_succ, List.getElem_cons_zero, List.setIfInBounds_toArray, List.set_cons_zero, List.set_cons_succ]
  obtain ⟨j0, hj0', hy0, hy1, hy2⟩ := info_parts infoBd
  refine wpAnyT_one (i := 9) (by kernel_rfl) rfl (fun K hK => ?_)
  refine step_append_room rfl (.tmp 71) (.tmp 76) 29 rfl 54 j0 2 Tryz.underlying29 hj0' hy1 gB 0 i d (by simp [Act.eval]) AvB (s.bs.length - (i + 1)) (d - (i + 1)) mvB (by simp [Act.eval]) s1B.out (hnewsB.out AvB hAnB) s2B.out (by omega) s3B.out ?_
  have gr : Y.drew.grownBy (Y.drew.setCells gB (0 + i * 2) mvB) (some gB) := grown_setCells _ _ _ (World.grownBy.refl _ _)
  refine hK.out _ _ (fun _ b o h1 h2 => (gr.cell_far ⟨b, o, none⟩ (by show b < Y.heap.size; omega) (fun e => HOB.out b h1 h2 (by injection e)))) (fun hH => ?_)
  have hHeld := hH rfl
  clear hK K hH
  try simp only [Act.put, List.getElem_toArray, List.getElem_cons_succ, List.getElem_cons_zero, List.setIfInBounds_toArray, List.set_cons_zero, List.set_cons_succ]
  refine wpAnyT_take (i := 10) (v := .pointer (some ⟨w.heap.size, 6, none⟩)) rfl (by kernel_rfl) (by kernel_rfl) (by kernel_rfl) (by kernel_rfl) (fun _ _ _ h => h) (Or.inl ⟨by rfl, (by intro wz hSz; (try dsimp only at hSz); go_simp)⟩) hHeld ?_; try simp only [Act.put, List.getElem_toArray, List.getElem_cons_succ, List.getElem_cons_zero, List.setIfInBounds_toArray, List.set_cons_zero, List.set_cons_succ]; refine wpAnyT_take (i := 11) (v := .pointer (some ⟨w.heap.size, 9, none⟩)) rfl (by kernel_rfl) (by kernel_rfl) (by kernel_rfl) (by kernel_rfl) (fun _ _ _ h => h) (Or.inl ⟨by rfl, (by intro wz hSz; (try dsimp only at hSz); go_simp)⟩) hHeld ?_; try simp only [Act.put, List.getElem_toArray, List.getElem_cons_succ, List.getElem_cons_zero, List.setIfInBounds_toArray, List.set_cons_zero, List.set_cons_succ]
  clear hHeld
  rw [Nat.zero_add] at gr
  rw [Nat.zero_add, hpB3]
  replace h := (h.drew_ 1).delB hi DB.out gr
  obtain ⟨Z, hZe⟩ : ∃ Z, Z = Y.drew.setCells gB (i * 2) mvB := ⟨_, rfl⟩
  replace h : HS w (OwnB s (some ⟨gA, 0, none⟩) (some ⟨gB, 0, none⟩) L c d q) base w.heap.size e ((shwL s (some ⟨gA, 0, none⟩) (some ⟨gB, 0, none⟩) L s.sh.length c s.bs.length d s.log.length q).set 5 (.slice (some ⟨gA, 0, none⟩) (s.sh.length - 1) c)) shw0 { s with sh := s.sh.eraseIdx i, bs := s.bs.eraseIdx i } (some ⟨gA, 0, none⟩) (some ⟨gB, 0, none⟩) L c d q Z := by rw [hZe]; exact h
  rw [← hZe]
  clear hZe gr DB s1B s2B s3B hnewsB hAB hAnB a0 a1 a2 a3 a4 a5 a6 a7 a8 a9 a10 a11 y0 y1 y2 y3 y4 y5 y6 y7 y8 y9 y10 y11 y12 f9 lx lx0
  have lx := h.lt
  have lx0 : w.heap.size < Z.heap.size := by omega
  have a9 := h.cx 9 _ rfl
  have f9 := h.fx 9
  refine wpAnyT_one (i := 12) (by kernel_rfl) rfl (fun K hK => ?_)
  go_simp
  refine hK.out _ _ (fun e => by cases e) (fun hH => ?_)
  clear hK K hH
  try simp only [Act.put, List.setIfInBounds_toArray, List.set_cons_zero, List.set_cons_succ]
  refine wpAnyT_end (by kernel_rfl) ?_ _
  go_upto_region 23 with fail
  clear a9 f9 lx0
  replace h := (h.put 9 (.slice (some ⟨gB, 0, none⟩) (s.bs.length - 1) d)); obtain ⟨U, hUe⟩ : ∃ U, U = (Z.setCell ⟨w.heap.size, 9, none⟩ (.slice (some ⟨gB, 0, none⟩) (s.bs.length - 1) d)) := ⟨_, rfl⟩; rw [← hUe] at h; rw [← hUe]; clear hUe; replace lx := h.lt
  have a0 := h.cx 0 _ rfl; have a1 := h.cx 1 _ rfl; have a2 := h.cx 2 _ rfl; have a3 := h.cx 3 _ rfl; have a4 := h.cx 4 _ rfl; have a5 := h.cx 5 _ rfl; have a6 := h.cx 6 _ rfl; have a7 := h.cx 7 _ rfl; have a8 := h.cx 8 _ rfl; have a9 := h.cx 9 _ rfl; have a10 := h.cx 10 _ rfl; have a11 := h.cx 11 _ rfl
  have o0 := h.co 0 _ rfl; have o1 := h.co 1 _ rfl; have o2 := h.co 2 _ rfl; have o3 := h.co 3 _ rfl; have o4 := h.co 4 _ rfl; have o5 := h.co 5 _ rfl; have o6 := h.co 6 _ rfl; have o7 := h.co 7 _ rfl; have o8 := h.co 8 _ rfl; have o9 := h.co 9 _ rfl; have o10 := h.co 10 _ rfl; have o11 := h.co 11 _ rfl
  have fo : FA _ (w.heap.size + 1 + 1) := h.fo
  have g0 := fo 0; have g1 := fo 1; have g2 := fo 2; have g3 := fo 3; have g4 := fo 4; have g5 := fo 5; have g6 := fo 6; have g7 := fo 7; have g8 := fo 8; have g9 := fo 9; have g10 := fo 10; have g11 := fo 11
  have lx := h.lt
  go_wp2
  have hz := ((((((((((((h.puto 0 (.int .i64 (({ s with sh := s.sh.eraseIdx i, bs := s.bs.eraseIdx i } : Shw)).sz)).puto 1 (.float .f32 (({ s with sh := s.sh.eraseIdx i, bs := s.bs.eraseIdx i } : Shw)).st)).puto 2 (.float .f32 (({ s with sh := s.sh.eraseIdx i, bs := s.bs.eraseIdx i } : Shw)).li.1)).puto 3 (.float .f32 (({ s with sh := s.sh.eraseIdx i, bs := s.bs.eraseIdx i } : Shw)).li.2.1)).puto 4 (.float .f32 (({ s with sh := s.sh.eraseIdx i, bs := s.bs.eraseIdx i } : Shw)).li.2.2)).puto 5 (.slice (some ⟨gA, 0, none⟩) (s.sh.length - 1) c)).puto 6 (.int .i64 (({ s with sh := s.sh.eraseIdx i, bs := s.bs.eraseIdx i } : Shw)).mir)).puto 7 (.complex .f32 (({ s with sh := s.sh.eraseIdx i, bs := s.bs.eraseIdx i } : Shw)).gr.1 (({ s with sh := s.sh.eraseIdx i, bs := s.bs.eraseIdx i } : Shw)).gr.2)).puto 8 (.float .f32 (({ s with sh := s.sh.eraseIdx i, bs := s.bs.eraseIdx i } : Shw)).loss)).puto 9 (.slice (some ⟨gB, 0, none⟩) (s.bs.length - 1) d)).puto 10 (.int .i64 (({ s with sh := s.sh.eraseIdx i, bs := s.bs.eraseIdx i } : Shw)).tk)).puto 11 (.slice L s.log.length q))
  have co : CA _ (w.heap.size + 1 + 1) _ := hz.co
  have own := hz.own
  have bel := hz.bel
  have hin := And.intro hz.iA (And.intro hz.iB hz.iL)
  clear hz
  have z0 := co 0 _ rfl; have z1 := co 1 _ rfl; have z2 := co 2 _ rfl; have z3 := co 3 _ rfl; have z4 := co 4 _ rfl; have z5 := co 5 _ rfl; have z6 := co 6 _ rfl; have z7 := co 7 _ rfl; have z8 := co 8 _ rfl; have z9 := co 9 _ rfl; have z10 := co 10 _ rfl; have z11 := co 11 _ rfl
  refine bodyPost_ret (v := .tuple #[.agg #[.int .i64 (({ s with sh := s.sh.eraseIdx i, bs := s.bs.eraseIdx i } : Shw)).sz, .float .f32 (({ s with sh := s.sh.eraseIdx i, bs := s.bs.eraseIdx i } : Shw)).st, .float .f32 (({ s with sh := s.sh.eraseIdx i, bs := s.bs.eraseIdx i } : Shw)).li.1, .float .f32 (({ s with sh := s.sh.eraseIdx i, bs := s.bs.eraseIdx i } : Shw)).li.2.1, .float .f32 (({ s with sh := s.sh.eraseIdx i, bs := s.bs.eraseIdx i } : Shw)).li.2.2, .slice (some ⟨gA, 0, none⟩) (s.sh.length - 1) c, .int .i64 (({ s with sh := s.sh.eraseIdx i, bs := s.bs.eraseIdx i } : Shw)).mir, .complex .f32 (({ s with sh := s.sh.eraseIdx i, bs := s.bs.eraseIdx i } : Shw)).gr.1 (({ s with sh := s.sh.eraseIdx i, bs := s.bs.eraseIdx i } : Shw)).gr.2, .float .f32 (({ s with sh := s.sh.eraseIdx i, bs := s.bs.eraseIdx i } : Shw)).loss, .slice (some ⟨gB, 0, none⟩) (s.bs.length - 1) d, .int .i64 (({ s with sh := s.sh.eraseIdx i, bs := s.bs.eraseIdx i } : Shw)).tk, .slice L s.log.length q], .bool true]) (by simp [results, Tryz.results100, go_sem, z0, z1, z2, z3, z4, z5, z6, z7, z8, z9, z10, z11]) rfl ⟨?_, bel⟩
  exact sHap_yes (t := { s with sh := s.sh.eraseIdx i, bs := s.bs.eraseIdx i }) own hin (by simp [EE.out.1, EE.out.2]) rfl HT.out
end Go.Proofs.YthlphmojldbpkaaGreat

/- l6Mirrors: the specification's. -/
namespace Go.Proofs.YthlphmojldbpkaaGreat
open Go.RowKit
attribute [local go_sem] run_store_float run_store_complex

/-- a tumble that is being changed: its box, the answer's, its row -/
structure MS (W0 : World) (base : Nat) (l o : List Value) (g n d : Nat) (bs : List Bd) (W : World) : Prop where
  cx : CA W W0.heap.size l
  fx : FA W W0.heap.size
  co : CA W (W0.heap.size + 1) o
  fo : FA W (W0.heap.size + 1)
  own : W.ownsRow base 54 2 (.slice (some ⟨g, 0, none⟩) n d) n (flat bdC bs)
  gx : g < W0.heap.size
  lt : W0.heap.size + 1 < W.heap.size
  gr : W0.grownBy W (some g)
theorem MS.step {W0 W W' : World} {base : Nat} {l o : List Value} {g n d : Nat} {bs : List Bd} (h : MS W0 base l o g n d bs W) (hb : Below W.heap.size W W') : MS W0 base l o g n d bs W' :=
  ⟨h.cx.keep hb, h.fx.keep hb (by have := h.lt; omega), h.co.keep hb, h.fo.keep hb h.lt, owns_below h.own hb, h.gx, Nat.lt_of_lt_of_le h.lt hb.size, h.gr.trans (grown_of_below hb (some g))⟩
theorem grown_fresh {W0 W : World} {g b : Nat} (h : W0.grownBy W (some g)) (hb : W0.heap.size ≤ b) (i : Nat) (u : Value) : W0.grownBy (W.setCell ⟨b, i, none⟩ u) (some g) :=
  ⟨h.os, h.tape, h.output, by simpa [World.setCell] using h.size, fun k hk hne => (Below.heap_setCell W ⟨b, i, none⟩ u k (by show k ≠ b; omega)).trans (h.block k hk hne)⟩
theorem MS.puto {W0 W : World} {base : Nat} {l o : List Value} {g n d : Nat} {bs : List Bd} (h : MS W0 base l o g n d bs W) (i : Nat) (u : Value) : MS W0 base l (o.set i u) g n d bs (W.setCell ⟨W0.heap.size + 1, i, none⟩ u) :=
  ⟨h.cx.other ⟨W0.heap.size + 1, i, none⟩ u (by show ¬ W0.heap.size = W0.heap.size + 1; omega), h.fx.set _ _, h.co.put i u, h.fo.set _ _, own_set h.own (fun e => by have e' : g = W0.heap.size + 1 := Option.some.inj e; have := h.gx; omega) i u, h.gx, by have := h.lt; simp [World.setCell]; omega, grown_fresh h.gr (by omega) i u⟩
theorem MS.put {W0 W : World} {base : Nat} {l o : List Value} {g n d : Nat} {bs : List Bd} (h : MS W0 base l o g n d bs W) (i : Nat) (u : Value) : MS W0 base (l.set i u) o g n d bs (W.setCell ⟨W0.heap.size, i, none⟩ u) :=
  ⟨h.cx.put i u, h.fx.set _ _, h.co.other ⟨W0.heap.size, i, none⟩ u (by show ¬ W0.heap.size + 1 = W0.heap.size; omega), h.fo.set _ _, own_set h.own (fun e => by have e' : g = W0.heap.size := Option.some.inj e; have := h.gx; omega) i u, h.gx, by have := h.lt; simp [World.setCell]; omega, grown_fresh h.gr (Nat.le_refl _) i u⟩
theorem MS.setB {W0 W : World} {base : Nat} {l o : List Value} {g n d : Nat} {bs : List Bd} (h : MS W0 base l o g n d bs W) {i : Nat} (hi : i < bs.length) (a v : Pt) :
    MS W0 base l o g n d (bs.set i (a, v)) ((W.setCell ⟨g, i * 2, none⟩ (.complex .f32 a.1 a.2)).setCell ⟨g, i * 2 + 1, none⟩ (.complex .f32 v.1 v.2)) := by
  have ho := ((h.own.stored (i * 2) (.complex .f32 a.1 a.2)).1.stored (i * 2 + 1) (.complex .f32 v.1 v.2)).1
  rw [← flat_setBd hi] at ho
  have gx := h.gx
  exact ⟨(h.cx.other ⟨g, i * 2, none⟩ _ (by show ¬ W0.heap.size = g; omega)).other ⟨g, i * 2 + 1, none⟩ _ (by show ¬ W0.heap.size = g; omega), (h.fx.set _ _).set _ _, (h.co.other ⟨g, i * 2, none⟩ _ (by show ¬ W0.heap.size + 1 = g; omega)).other ⟨g, i * 2 + 1, none⟩ _ (by show ¬ W0.heap.size + 1 = g; omega), (h.fo.set _ _).set _ _, ho, h.gx, by have := h.lt; simp [World.setCell]; omega, grown_set (grown_set h.gr _ _) _ _⟩
theorem ms_new {w : World} {base g n d : Nat} {bs : List Bd} (own : w.ownsRow base 54 2 (.slice (some ⟨g, 0, none⟩) n d) n (flat bdC bs)) (l o : Array Value) (t1 t2 : TypeId) : MS w base l.toList o.toList g n d bs ((w.alloc (Obj.cells l t1)).alloc (Obj.cells o t2)) := by
  have z1 : (w.alloc (Obj.cells l t1)).heap.size = w.heap.size + 1 := by simp
  have hB : Below w.heap.size w ((w.alloc (Obj.cells l t1)).alloc (Obj.cells o t2)) := by (repeat (first | with_reducible assumption | exact Below.refl _ _ | (refine Below.setCell ?_ (by first | exact Nat.le_refl _ | (simp; done) | omega | (simp; omega)) _) | (refine below_drewN ?_ _) | (refine Below.drew ?_) | (refine Below.alloc ?_ (by first | exact Nat.le_refl _ | (simp; done) | omega | (simp; omega)) _) | (refine then_ ?_ (by with_reducible assumption)) | assumption | (refine then_ ?_ (by assumption))))
  refine ⟨(CA.new w l t1).alloc _, (FA.new w l t1).alloc (by simp) _, ?_, ?_, owns_below own hB, (own.lt g rfl).2, by simp, grown_of_below hB _⟩
  · rw [← z1]; exact CA.new _ o t2
  · rw [← z1]; exact FA.new _ o t2

set_option maxRecDepth 100000 in
set_option maxHeartbeats 4000000 in
theorem specMirrors_any (mir kind : Int) (gr : Pt) (loss g n d base : Nat) (bs : List Bd) (w : World) (hn : n ≤ 1000) (hl : bs.length = n) (hff : ∀ b ∈ bs, foldS kind b.1 = foldP kind b.1 ∧ actS (foldP kind b.1).2.1.1 (foldP kind b.1).2.1.2 b.2.1 b.2.2 = actP (foldP kind b.1).2.1.1 (foldP kind b.1).2.1.2 b.2.1 b.2.2 ∧ inB (foldP kind b.1).2.1.1 0 3 = true)
    (own : w.ownsRow base 54 2 (.slice (some ⟨g, 0, none⟩) n d) n (flat bdC bs)) :
    Calls Tryz.prog 135 #[.agg #[.int .i64 mir, .complex .f32 gr.1 gr.2, .float .f32 loss, .slice (some ⟨g, 0, none⟩) n d], .int .i64 kind] w fun r w' => r = .returned (.agg #[.int .i64 kind, .complex .f32 gr.1 gr.2, .float .f32 loss, .slice (some ⟨g, 0, none⟩) n d]) ∧ w'.ownsRow base 54 2 (.slice (some ⟨g, 0, none⟩) n d) n (flat bdC (bs.map (mirBd kind))) ∧ w.grownBy w' (some g) := by
  obtain ⟨ml, hml⟩ : ∃ ml, ml = bs.map (mirBd kind) := ⟨_, rfl⟩
  have hll : ml.length = bs.length := by rw [hml]; simp
  rw [← hml]
  have ML := Lib.hid hml
  have LL := Lib.hid hll
  have HL := Lib.hid hl
  have FF := Lib.hid hff
  have OWN := Lib.hid own
  clear hml hll hl hff own
  go_enter Tryz.func135, Tryz.ntmps135
  go_upto_region 1 with fail
  have h := ms_new OWN.out #[.int .i64 mir, .complex .f32 gr.1 gr.2, .float .f32 loss, .slice (some ⟨g, 0, none⟩) n d] #[.int .i64 0, .complex .f32 0 0, .float .f32 0, .slice none 0 0] 31 31
  obtain ⟨V, hVe⟩ : ∃ V, V = (w.alloc (Obj.cells #[.int .i64 mir, .complex .f32 gr.1 gr.2, .float .f32 loss, .slice (some ⟨g, 0, none⟩) n d] 31)).alloc (Obj.cells #[.int .i64 0, .complex .f32 0 0, .float .f32 0, .slice none 0 0] 31) := ⟨_, rfl⟩
  rw [← hVe] at h
  rw [← hVe]
  clear hVe
  have lx := h.lt
  have lx0 : w.heap.size < V.heap.size := by omega
  have a0 := h.cx 0 _ rfl
  have f0 := h.fx 0
  go_upto_region 2 with fail
  replace h := h.put 0 (.int .i64 kind)
  obtain ⟨X, hXe⟩ : ∃ X, X = V.setCell ⟨w.heap.size, 0, none⟩ (.int .i64 kind) := ⟨_, rfl⟩
  rw [← hXe] at h
  rw [← hXe]
  clear hXe a0 f0 lx lx0
  have HX := Lib.hid h
  have a3 := h.cx 3 _ rfl
  clear h
  go_wp2_with fail
  go_loopw [15] (fun i wr => ∃ k : Nat, k ≤ n ∧ i = .int .i64 k ∧ MS w base ([.int .i64 kind, .complex .f32 gr.1 gr.2, .float .f32 loss, .slice (some ⟨g, 0, none⟩) n d]) [.int .i64 0, .complex .f32 0 0, .float .f32 0, .slice none 0 0] g n d (mixL ml bs k) wr) (fun i _ => n - (intOf i).toNat)
  case atStart => exact ⟨0, Nat.zero_le _, rfl, by rw [mixL_zero]; exact HX.out⟩
  case round =>
    clear a3
    obtain ⟨k, hk, rfl, h⟩ := hrel
    have lx := h.lt
    by_cases hlt : k < n
    · have hki : (k : Int) < (n : Int) := by omega
      have hk0 : (0 : Int) ≤ (k : Int) := by omega
      have hkb : k < bs.length := by have := HL.out; omega
      have lm := mixL_len (k := k) LL.out (by omega)
      have rdb : Rd bdC 2 wr wr.heap.size (some ⟨g, 0, none⟩) n (mixL ml bs k) := Rd.of_own bdC_len (by rw [lm]; exact HL.out) h.own
      obtain ⟨bb, off, a, v, hB, hbl, hx, x0, x1⟩ := rdb.bd hlt
      injection hB with hB
      injection hB with hB1 hB2
      subst hB1 hB2
      rw [Nat.zero_add] at x0 x1
      have hxb := hx
      rw [mixL_get LL.out hkb] at hxb
      have hy : ml[k]? = some (mirBd kind (a, v)) := by rw [ML.out, List.getElem?_map, hxb]; rfl
      have SB := mixL_set LL.out hy
      obtain ⟨ff1, ff2, ff3⟩ := FF.out (a, v) (List.mem_of_getElem? hxb)
      dsimp only at ff1 ff2 ff3
      have kf := fun w => specFoldPoint_any kind a w
      rw [ff1] at kf
      unfold mirBd at SB
      dsimp only at SB
      generalize foldP kind a = rr at kf SB ff2 ff3
      obtain ⟨⟨p1, p2⟩, ⟨gt, gf⟩, ok⟩ := rr
      dsimp only at SB ff2 ff3
      have ka := fun w => l1Act_any gt gf v.1 v.2 w ff3
      rw [ff2] at ka
      generalize actP gt gf v.1 v.2 = y at ka SB
      obtain ⟨y1, y2⟩ := y
      simp only [foldV] at kf
      simp only [cxV] at ka
      have KF := Lib.hid kf
      have KA := Lib.hid ka
      have SBH := Lib.hid SB
      have LM := Lib.hid lm
      clear kf ka SB hy hx hxb lm ff1 ff2 ff3 rdb
      have lx0 : w.heap.size < wr.heap.size := by omega
      go_upto_region 5 with fail
      replace h := h.step (show Below wr.heap.size wr (wr.alloc (Obj.cells #[.complex .f32 a.1 a.2, .complex .f32 v.1 v.2] 54)) by (repeat (first | with_reducible assumption | exact Below.refl _ _ | (refine Below.setCell ?_ (by first | exact Nat.le_refl _ | (simp; done) | omega | (simp; omega)) _) | (refine below_drewN ?_ _) | (refine Below.drew ?_) | (refine Below.alloc ?_ (by first | exact Nat.le_refl _ | (simp; done) | omega | (simp; omega)) _) | (refine then_ ?_ (by with_reducible assumption)) | assumption | (refine then_ ?_ (by assumption)))))
      have cb := CA.new wr #[.complex .f32 a.1 a.2, .complex .f32 v.1 v.2] 54
      have lX : wr.heap.size < (wr.alloc (Obj.cells #[.complex .f32 a.1 a.2, .complex .f32 v.1 v.2] 54)).heap.size := by simp
      obtain ⟨X2, hXe⟩ : ∃ X, X = wr.alloc (Obj.cells #[.complex .f32 a.1 a.2, .complex .f32 v.1 v.2] 54) := ⟨_, rfl⟩
      rw [← hXe] at h cb lX
      rw [← hXe]
      clear hXe x0 x1
      have b0 := cb 0 _ rfl
      go_wp2_with fail
      (with_reducible refine (KF.out _).mono ?_)
      rintro r w5 ⟨rfl, hb⟩
      replace h := h.step hb
      replace cb := cb.keep hb
      have z5 := hb.size
      clear b0 hb
      go_upto_region 6 with fail
      have l5 : wr.heap.size < w5.heap.size := by omega
      replace h := h.step (show Below w5.heap.size w5 (w5.alloc (Obj.cells #[.int .i64 gt, .bool gf] 58)) by (repeat (first | with_reducible assumption | exact Below.refl _ _ | (refine Below.setCell ?_ (by first | exact Nat.le_refl _ | (simp; done) | omega | (simp; omega)) _) | (refine below_drewN ?_ _) | (refine Below.drew ?_) | (refine Below.alloc ?_ (by first | exact Nat.le_refl _ | (simp; done) | omega | (simp; omega)) _) | (refine then_ ?_ (by with_reducible assumption)) | assumption | (refine then_ ?_ (by assumption)))))
      replace cb := cb.alloc (Obj.cells #[.int .i64 gt, .bool gf] 58)
      have cs := CA.new w5 #[.int .i64 gt, .bool gf] 58
      have lY : w5.heap.size < (w5.alloc (Obj.cells #[.int .i64 gt, .bool gf] 58)).heap.size := by simp
      obtain ⟨Y, hYe⟩ : ∃ Y, Y = w5.alloc (Obj.cells #[.int .i64 gt, .bool gf] 58) := ⟨_, rfl⟩
      rw [← hYe] at h cb cs lY
      rw [← hYe]
      clear hYe
      have a3 := h.cx 3 _ rfl
      have b1 := cb 1 _ rfl
      have s0 := cs 0 _ rfl
      have s1 := cs 1 _ rfl
      have lb1 : wr.heap.size < Y.heap.size := by omega
      have lxY : w.heap.size < Y.heap.size := by have := h.lt; omega
      obtain ⟨u0, hu0⟩ := owns_cell h.own (k * 2) (by omega)
      obtain ⟨u1, hu1⟩ := owns_cell h.own (k * 2 + 1) (by omega)
      have fB0 := h.own.frozenAt (k * 2)
      have fB1 := h.own.frozenAt (k * 2 + 1)
      have hne : g < Y.heap.size := (h.own.lt g rfl).2
      refine wp_region_T (fun z => ∀ b o, b < Y.heap.size → z.cell? ⟨b, o, none⟩ = Y.cell? ⟨b, o, none⟩) (fun j => decide (10 ≤ j)) (by kernel_rfl) (fun _ _ _ => rfl) (fun hHeld => ?_)
      refine wpAnyT_take (i := 0) (v := .pointer (some ⟨w.heap.size, 3, none⟩)) rfl (by kernel_rfl) (by kernel_rfl) (by kernel_rfl) (by kernel_rfl) (fun _ _ _ h => h) (Or.inl ⟨by rfl, (by intro wz hSz; (try dsimp only at hSz); go_simp)⟩) hHeld ?_; try simp only [Act.put, List.getElem_toArray, List.getElem_cons_zero, List.setIfInBounds_toArray, List.set_cons_zero, List.set_cons_succ]; refine wpAnyT_take (i := 1) (v := .slice (some ⟨g, 0, none⟩) n d) rfl (by kernel_rfl) (by kernel_rfl) (by kernel_rfl) (by kernel_rfl) (fun _ _ _ h => h) (Or.inl ⟨by rfl, (by intro wz hSz; (try dsimp only at hSz); go_simp)⟩) hHeld ?_; try simp only [Act.put, List.getElem_toArray, List.getElem_cons_succ, List.getElem_cons_zero, List.setIfInBounds_toArray, List.set_cons_zero, List.set_cons_succ]; refine wpAnyT_take (i := 2) (v := .int .i64 (k : Int)) rfl (by kernel_rfl) (by kernel_rfl) (by kernel_rfl) (by kernel_rfl) (fun _ _ _ h => h) (Or.inl ⟨by rfl, (by intro wz hSz; (try dsimp only at hSz); go_simp)⟩) hHeld ?_; try simp only [Act.put, List.getElem_toArray, List.getElem_cons_succ, List.getElem_cons_zero, List.setIfInBounds_toArray, List.set_cons_zero, List.set_cons_succ]; refine wpAnyT_take (i := 3) (v := .complex .f32 p1 p2) rfl (by kernel_rfl) (by kernel_rfl) (by kernel_rfl) (by kernel_rfl) (fun _ _ _ h => h) (Or.inl ⟨by rfl, (by intro wz hSz; (try dsimp only at hSz); go_simp)⟩) hHeld ?_; try simp only [Act.put, List.getElem_toArray, List.getElem_cons_succ, List.getElem_cons_zero, List.setIfInBounds_toArray, List.set_cons_zero, List.set_cons_succ]; refine wpAnyT_take (i := 4) (v := .agg #[.int .i64 gt, .bool gf]) rfl (by kernel_rfl) (by kernel_rfl) (by kernel_rfl) (by kernel_rfl) (fun _ _ _ h => h) (Or.inl ⟨by rfl, (by intro wz hSz; (try dsimp only at hSz); go_simp)⟩) hHeld ?_; try simp only [Act.put, List.getElem_toArray, List.getElem_cons_succ, List.getElem_cons_zero, List.setIfInBounds_toArray, List.set_cons_zero, List.set_cons_succ]; refine wpAnyT_take (i := 5) (v := .pointer (some ⟨wr.heap.size, 1, none⟩)) rfl (by kernel_rfl) (by kernel_rfl) (by kernel_rfl) (by kernel_rfl) (fun _ _ _ h => h) (Or.inl ⟨by rfl, (by intro wz hSz; (try dsimp only at hSz); go_simp)⟩) hHeld ?_; try simp only [Act.put, List.getElem_toArray, List.getElem_cons_succ, List.getElem_cons_zero, List.setIfInBounds_toArray, List.set_cons_zero, List.set_cons_succ]; refine wpAnyT_take (i := 6) (v := .complex .f32 v.1 v.2) rfl (by kernel_rfl) (by kernel_rfl) (by kernel_rfl) (by kernel_rfl) (fun _ _ _ h => h) (Or.inl ⟨by rfl, (by intro wz hSz; (try dsimp only at hSz); go_simp)⟩) hHeld ?_; try simp only [Act.put, List.getElem_toArray, List.getElem_cons_succ, List.getElem_cons_zero, List.setIfInBounds_toArray, List.set_cons_zero, List.set_cons_succ]
      refine wpAnyT_one (i := 7) (by kernel_rfl) rfl (fun K hK => ?_)
      go_simp
      go_at_call 151
      (with_reducible refine (KA.out _).mono ?_)
      rintro r w7 ⟨rfl, hb7⟩
      have hB7 : Below Y.heap.size Y w7 := by (repeat (first | with_reducible assumption | exact Below.refl _ _ | (refine Below.setCell ?_ (by first | exact Nat.le_refl _ | (simp; done) | omega | (simp; omega)) _) | (refine below_drewN ?_ _) | (refine Below.drew ?_) | (refine Below.alloc ?_ (by first | exact Nat.le_refl _ | (simp; done) | omega | (simp; omega)) _) | (refine then_ ?_ (by with_reducible assumption)) | assumption | (refine then_ ?_ (by assumption))))
      go_wp2_with fail
      refine hK.out _ _ (fun _ b o h => hB7.cell (p := ⟨b, o, none⟩) h) (fun hH => ?_)
      have hHeld := hH rfl
      clear hK K hH
      try simp only [Act.put, List.setIfInBounds_toArray, List.set_cons_zero, List.set_cons_succ]
      refine wpAnyT_take (i := 8) (v := .agg #[.complex .f32 p1 p2, .complex .f32 y1 y2]) rfl (by kernel_rfl) (by kernel_rfl) (by kernel_rfl) (by kernel_rfl) (fun _ _ _ h => h) (Or.inl ⟨by rfl, (by intro wz hSz; (try dsimp only at hSz); go_simp)⟩) hHeld ?_; try simp only [Act.put, List.getElem_toArray, List.getElem_cons_succ, List.getElem_cons_zero, List.setIfInBounds_toArray, List.set_cons_zero, List.set_cons_succ]; refine wpAnyT_take (i := 9) (v := .pointer (some ⟨g, k * 2, none⟩)) rfl (by kernel_rfl) (by kernel_rfl) (by kernel_rfl) (by kernel_rfl) (fun _ _ _ h => h) (Or.inl ⟨by rfl, (by intro wz hSz; (try dsimp only at hSz); go_simp)⟩) hHeld ?_; try simp only [Act.put, List.getElem_toArray, List.getElem_cons_succ, List.getElem_cons_zero, List.setIfInBounds_toArray, List.set_cons_zero, List.set_cons_succ]
      clear hHeld
      replace hu0 := keepC hu0 hB7
      replace hu1 := keepC hu1 hB7
      replace fB0 := (hB7.frozen (p := ⟨g, k * 2, none⟩) hne).trans fB0
      replace fB1 := (hB7.frozen (p := ⟨g, k * 2 + 1, none⟩) hne).trans fB1
      replace h := h.step hB7
      have z7 := hB7.size
      have lb7 : g < w7.heap.size := by omega
      refine wpAnyT_one (i := 10) (by kernel_rfl) rfl (fun K hK => ?_)
      go_simp
      refine hK.out _ _ (fun e => by cases e) (fun hH => ?_)
      clear hK K hH
      try simp only [Act.put, List.setIfInBounds_toArray, List.set_cons_zero, List.set_cons_succ]
      refine wpAnyT_end (by kernel_rfl) ?_ _
      go_wp2_with fail
      go_roundw
      case rel =>
        refine ⟨k + 1, by omega, by go_num, ?_⟩
        have hr := h.setB (i := k) (by rw [LM.out]; have := HL.out; omega) (p1, p2) (y1, y2)
        rw [SBH.out] at hr
        exact hr
      case measure => simp [intOf]; omega
    · obtain rfl : k = n := by omega
      have eB : mixL ml bs k = ml := by rw [← HL.out]; exact mixL_all LL.out
      rw [eB] at h
      have HH := Lib.hid h
      have a0 := h.cx 0 _ rfl; have a1 := h.cx 1 _ rfl; have a2 := h.cx 2 _ rfl; have a3 := h.cx 3 _ rfl
      have o0 := h.co 0 _ rfl; have o1 := h.co 1 _ rfl; have o2 := h.co 2 _ rfl; have o3 := h.co 3 _ rfl
      have f0 := h.fo 0; have f1 := h.fo 1; have f2 := h.fo 2; have f3 := h.fo 3
      have lx0 : w.heap.size < wr.heap.size := by omega
      clear eB h
      go_wp2
      have hz := (((HH.out.puto 0 (.int .i64 kind)).puto 1 (.complex .f32 gr.1 gr.2)).puto 2 (.float .f32 loss)).puto 3 (.slice (some ⟨g, 0, none⟩) k d)
      have z0 := hz.co 0 _ rfl; have z1 := hz.co 1 _ rfl; have z2 := hz.co 2 _ rfl; have z3 := hz.co 3 _ rfl
      refine bodyPost_ret (v := .agg #[.int .i64 kind, .complex .f32 gr.1 gr.2, .float .f32 loss, .slice (some ⟨g, 0, none⟩) k d]) (by simp [results, Tryz.results135, go_sem, z0, z1, z2, z3]) rfl ⟨rfl, hz.own, hz.gr⟩
end Go.Proofs.YthlphmojldbpkaaGreat

/- RunTumble, BouncesOf: the program's. -/
namespace Go.Proofs.YthlphmojldbpkaaGreat
open Go.RowKit
attribute [local go_sem] run_store_float run_store_complex

end Go.Proofs.YthlphmojldbpkaaGreat

/- RunTumble of a valid tumble: what it gives; plain facts for the laws on tumbles; big. -/
namespace Go.Proofs.YthlphmojldbpkaaGreat
open Go.RowKit
attribute [local go_sem] run_store_float run_store_complex

theorem bigT_any (A : Option Addr) (m c : Nat) (w : World) :
    Calls Tryz.prog 6 #[.slice A m c] w fun e w' => e = .returned (.bool (decide ((4096 : Int) < m))) ∧ w = w' := by
  go_enter Tryz.func6, Tryz.ntmps6
  go_wp2
  go_ret
  exact ⟨rfl, rfl⟩

def runB (mir : Int) (gr : Pt) (loss : Nat) (bs : List Bd) (k : Nat) : List Bd := match runUp mir gr loss bs k with
  | some (b, _) => b
  | none => bs
def runS (mir : Int) (gr : Pt) (loss : Nat) (bs : List Bd) (k : Nat) : Bool := (runUp mir gr loss bs k).isSome
theorem runB_len (mir : Int) (gr : Pt) (loss : Nat) (bs : List Bd) (k : Nat) : (runB mir gr loss bs k).length = bs.length := by
  unfold runB
  split
  · rename_i b c h; exact (runUp_len h).1
  · rfl
theorem runB_tum {mir : Int} {gr : Pt} {loss : Nat} {bs : List Bd} (h : tumB mir gr loss bs = true) (k : Nat) : tumB mir gr loss (runB mir gr loss bs k) = true := by
  unfold runB
  split
  · rename_i b c hk; exact runUp_tum h hk
  · exact h
theorem runB_no {mir : Int} {gr : Pt} {loss : Nat} {bs : List Bd} {k : Nat} (h : runS mir gr loss bs k = false) : runB mir gr loss bs k = bs := by
  unfold runS at h
  unfold runB
  split
  · rename_i b c hk; rw [hk] at h; cases h
  · rfl
/-- ticks in two parts -/
theorem runS_split {mir : Int} {gr : Pt} {loss : Nat} {bs : List Bd} {k n : Nat} (hk : k ≤ n) :
    (runS mir gr loss bs k = false → runS mir gr loss bs n = false) ∧
    (runS mir gr loss bs k = true → runS mir gr loss bs n = runS mir gr loss (runB mir gr loss bs k) (n - k) ∧ (runS mir gr loss bs n = true → runB mir gr loss bs n = runB mir gr loss (runB mir gr loss bs k) (n - k))) := by
  obtain ⟨j, rfl⟩ : ∃ j, n = k + j := ⟨n - k, by omega⟩
  have ej : k + j - k = j := by omega
  rw [ej]
  unfold runS runB
  cases h : runUp mir gr loss bs k with
  | none =>
    have hj := runUp_none h j
    simp [hj]
  | some r =>
    obtain ⟨b, c⟩ := r
    refine ⟨fun h => (by cases h), fun _ => ?_⟩
    rw [runUp_add h j]
    cases hj : runUp mir gr loss b j with
    | none => simp
    | some r => simp
theorem runOk_up {mir : Int} {gr : Pt} {loss : Nat} {bs : List Bd} (ht : tumB mir gr loss bs = true) {N : Nat} (hN : N ≤ 64) : runOk mir gr loss bs (N : Int) = runUp mir gr loss bs N := by
  unfold runOk
  have h : inB (N : Int) 0 64 = true := by unfold inB; simp; omega
  rw [ht, h]
  rfl
/-- a tumble's box -/
def BoxT (w : World) (b : Nat) (mir : Int) (gr : Pt) (loss : Nat) (s : Value) : Prop :=
  w.cell? ⟨b, 0, none⟩ = some (.int .i64 mir) ∧ w.cell? ⟨b, 1, none⟩ = some (.complex .f32 gr.1 gr.2) ∧ w.cell? ⟨b, 2, none⟩ = some (.float .f32 loss) ∧ w.cell? ⟨b, 3, none⟩ = some s
theorem BoxT.keep {w w' : World} {b : Nat} {mir : Int} {gr : Pt} {loss : Nat} {s : Value} (h : BoxT w b mir gr loss s) (hb : Below w.heap.size w w') : BoxT w' b mir gr loss s :=
  ⟨keepC h.1 hb, keepC h.2.1 hb, keepC h.2.2.1 hb, keepC h.2.2.2 hb⟩
theorem BoxT.lt {w : World} {b : Nat} {mir : Int} {gr : Pt} {loss : Nat} {s : Value} (h : BoxT w b mir gr loss s) : b < w.heap.size := World.block_lt_of_cell? _ _ h.1
theorem boxT_new (w : World) (mir : Int) (gr : Pt) (loss : Nat) (s : Value) (t : TypeId) : BoxT (w.alloc (Obj.cells #[.int .i64 mir, .complex .f32 gr.1 gr.2, .float .f32 loss, s] t)) w.heap.size mir gr loss s :=
  ⟨by simp [go_sem], by simp [go_sem], by simp [go_sem], by simp [go_sem]⟩
theorem eqB_self {x : Nat} (h : finB x = true) : eqB x x = true := by rw [eqB_fin h h]; simp
theorem cxE_self {p : Pt} (h : finP p) : cxE p p = true := by unfold cxE; rw [eqB_self h.1, eqB_self h.2]; rfl
theorem ok_fin {mir : Int} {b : Bd} (h : okBd mir b = true) : finP b.1 ∧ finP b.2 := by
  unfold okBd wedgeB at h
  rw [Bool.and_eq_true, Bool.and_eq_true] at h
  exact ⟨point_fin h.1.1, point_fin h.2⟩
theorem bdE_self {mir : Int} {b : Bd} (h : okBd mir b = true) : bdE b b = true := by
  unfold bdE
  rw [cxE_self (ok_fin h).1, cxE_self (ok_fin h).2]; rfl
theorem tum_same {mir : Int} {gr : Pt} {loss : Nat} {bs : List Bd} (h : tumB mir gr loss bs = true) : cxE gr gr = true ∧ eqB loss loss = true ∧ ∀ (i : Nat) x y, bs[i]? = some x → bs[i]? = some y → bdE x y = true := by
  rw [tumB_parts] at h
  obtain ⟨_, h2, h3, _, h5⟩ := h
  refine ⟨cxE_self (point_fin h2), eqB_self (part_fin h3), fun i x y hx hy => ?_⟩
  rw [hx] at hy
  injection hy with hy
  subst hy
  exact bdE_self (List.all_eq_true.1 h5 x (List.mem_of_getElem? hx))
end Go.Proofs.YthlphmojldbpkaaGreat

/- TurnTumble of a tumble that stays valid: the program's. -/
namespace Go.Proofs.YthlphmojldbpkaaGreat
open Go.RowKit
attribute [local go_sem] run_store_float run_store_complex

def turnBd (t : Int) (f : Bool) (b : Bd) : Bd := (actP t f b.1.1 b.1.2, actP t f b.2.1 b.2.2)
def turnL (t : Int) (f : Bool) (bs : List Bd) : List Bd := bs.map (turnBd t f)
theorem setKeep {w W : World} {gs B : Nat} (h : ∀ b o, b < B → ¬ b = gs → w.cell? ⟨b, o, none⟩ = W.cell? ⟨b, o, none⟩) (j : Nat) (u : Value) : ∀ b o, b < B → ¬ b = gs → (w.setCell ⟨gs, j, none⟩ u).cell? ⟨b, o, none⟩ = W.cell? ⟨b, o, none⟩ :=
  fun b o hb hn => (World.cell?_setCell_other w ⟨gs, j, none⟩ ⟨b, o, none⟩ u (fun e => hn (by injection e with e1; exact e1.symm))).trans (h b o hb hn)

end Go.Proofs.YthlphmojldbpkaaGreat

/- Without mirrors a turned tumble goes on as the turned one: plain, by keys. -/
namespace Go.Proofs.YthlphmojldbpkaaGreat
open Go.RowKit

theorem aI_sm_iff {b : Int} {p : Int × Int} {t : Int} {f : Bool} (ht : inB t 0 3 = true) : Sm b (aI t f p) ↔ Sm b p := by
  obtain ⟨x, y⟩ := p
  obtain ⟨k1, k2⟩ := inB_true ht
  have hc : t = 0 ∨ t = 1 ∨ t = 2 ∨ t = 3 := by omega
  rcases hc with rfl | rfl | rfl | rfl <;> cases f <;>
    simp only [a00, a10, a20, a30, a01, a11, a21, a31, Sm] <;> omega
/-- two beads of which one is the other turned, by keys -/
def TB (t : Int) (f : Bool) (b' b : Bd) : Prop := (keyP b'.1 = aI t f (keyP b.1) ∧ keyP b'.2 = aI t f (keyP b.2)) ∧ (finP b'.1 ∧ finP b'.2) ∧ (finP b.1 ∧ finP b.2)
def TL (t : Int) (f : Bool) (bs' bs : List Bd) : Prop := bs'.length = bs.length ∧ ∀ (i : Nat) b' b, bs'[i]? = some b' → bs[i]? = some b → TB t f b' b
theorem point_iff {p q : Pt} {t : Int} {f : Bool} (ht : inB t 0 3 = true) (hp : finP p) (hq : finP q) (h : keyP p = aI t f (keyP q)) : pointB p.1 p.2 = pointB q.1 q.2 := by
  have h1 := point_key hp
  have h2 := point_key hq
  rw [h, aI_sm_iff ht] at h1
  rw [Bool.eq_iff_iff, h1, h2]
theorem goOk_turn {t : Int} {f : Bool} {gr gr' : Pt} {b' b : Bd} (ht : inB t 0 3 = true) (hg : finP gr) (hg' : finP gr') (hk : keyP gr' = aI t f (keyP gr)) (h : TB t f b' b) :
    goOk gr' b' = goOk gr b ∧ keyP (plusP b'.2 gr') = aI t f (keyP (plusP b.2 gr)) ∧ keyP (plusP b'.1 (plusP b'.2 gr')) = aI t f (keyP (plusP b.1 (plusP b.2 gr))) := by
  obtain ⟨⟨h1, h2⟩, ⟨f1, f2⟩, f3, f4⟩ := h
  have e1 : keyP (plusP b'.2 gr') = aI t f (keyP (plusP b.2 gr)) := by rw [plus_keys f2 hg', plus_keys f4 hg, h2, hk, plusZ_aI]
  have n1 := cwP_fin (plus_cw f2 hg')
  have n2 := cwP_fin (plus_cw f4 hg)
  have e2 : keyP (plusP b'.1 (plusP b'.2 gr')) = aI t f (keyP (plusP b.1 (plusP b.2 gr))) := by rw [plus_keys f1 n1, plus_keys f3 n2, h1, e1, plusZ_aI]
  have n3 := cwP_fin (plus_cw f1 n1)
  have n4 := cwP_fin (plus_cw f3 n2)
  refine ⟨?_, e1, e2⟩
  unfold goOk
  rw [point_iff ht n1 n2 e1, point_iff ht n3 n4 e2]
/-- a bead without mirrors -/
theorem actP_same {p : Pt} (h : pointB p.1 p.2 = true) : keyP (actP 0 false p.1 p.2) = keyP p ∧ finP (actP 0 false p.1 p.2) := by
  rw [actP_yes (by decide) h]
  exact actI_key (t := 0) (f := false) (re := p.1) (im := p.2) (point_fin h)
theorem goBd_zero {gr : Pt} {loss : Nat} {b : Bd} (h : goOk gr b = true) :
    (keyP (goBd 0 gr loss b).1.1 = keyP (plusP b.1 (plusP b.2 gr)) ∧ keyP (goBd 0 gr loss b).1.2 = keyP (plusP b.2 gr)) ∧ finP (goBd 0 gr loss b).1.1 ∧ finP (goBd 0 gr loss b).1.2 := by
  unfold goOk at h
  rw [Bool.and_eq_true] at h
  obtain ⟨h1, h2⟩ := h
  have hf : firstG 0 (keyP (plusP b.1 (plusP b.2 gr))) = some (0, false) := by unfold firstG; rw [syms0]; rfl
  have e : goBd 0 gr loss b = ((actP 0 false (plusP b.1 (plusP b.2 gr)).1 (plusP b.1 (plusP b.2 gr)).2, actP 0 false (plusP b.2 gr).1 (plusP b.2 gr).2), false) := by
    unfold goBd
    rw [foldP_g h2 hf]
    rfl
  rw [e]
  obtain ⟨a1, a2⟩ := actP_same h2
  obtain ⟨b1, b2⟩ := actP_same h1
  exact ⟨⟨a1, b1⟩, a2, b2⟩
theorem allGo_at {gr : Pt} {bs : List Bd} (h : allGo gr bs = true) {i : Nat} {b : Bd} (hb : bs[i]? = some b) : goOk gr b = true := List.all_eq_true.1 h b (List.mem_of_getElem? hb)
theorem TL_at {t : Int} {f : Bool} {bs' bs : List Bd} (h : TL t f bs' bs) {i : Nat} {b : Bd} (hb : bs[i]? = some b) : ∃ b', bs'[i]? = some b' ∧ TB t f b' b := by
  have hi := (List.getElem?_eq_some_iff.1 hb).1
  have hi' : i < bs'.length := by rw [h.1]; exact hi
  exact ⟨bs'[i], List.getElem?_eq_getElem hi', h.2 i _ _ (List.getElem?_eq_getElem hi') hb⟩
theorem TL_at' {t : Int} {f : Bool} {bs' bs : List Bd} (h : TL t f bs' bs) {i : Nat} {b' : Bd} (hb : bs'[i]? = some b') : ∃ b, bs[i]? = some b ∧ TB t f b' b := by
  have hi := (List.getElem?_eq_some_iff.1 hb).1
  have hi' : i < bs.length := by rw [← h.1]; exact hi
  exact ⟨bs[i], List.getElem?_eq_getElem hi', h.2 i _ _ hb (List.getElem?_eq_getElem hi')⟩
theorem allGo_turn {t : Int} {f : Bool} {gr gr' : Pt} {bs' bs : List Bd} (ht : inB t 0 3 = true) (hg : finP gr) (hg' : finP gr') (hk : keyP gr' = aI t f (keyP gr)) (h : TL t f bs' bs) : allGo gr' bs' = allGo gr bs := by
  cases h1 : allGo gr bs
  · unfold allGo at h1
    obtain ⟨b, hb, hn⟩ := List.all_eq_false.1 h1
    obtain ⟨i, hi⟩ := List.getElem?_of_mem hb
    obtain ⟨b', hb', hr⟩ := TL_at h hi
    exact allX_no hb' (by rw [(goOk_turn ht hg hg' hk hr).1]; simpa using hn)
  · refine allX_yes (fun i b' hb' => ?_)
    obtain ⟨b, hb, hr⟩ := TL_at' h hb'
    rw [(goOk_turn ht hg hg' hk hr).1]
    exact allGo_at h1 hb
theorem goL_turn {t : Int} {f : Bool} {gr gr' : Pt} {loss : Nat} {bs' bs : List Bd} (ht : inB t 0 3 = true) (hg : finP gr) (hg' : finP gr') (hk : keyP gr' = aI t f (keyP gr)) (h : TL t f bs' bs) (ho : allGo gr bs = true) : TL t f (goL 0 gr' loss bs') (goL 0 gr loss bs) := by
  refine ⟨by simp [goL, h.1], fun i x' x hx' hx => ?_⟩
  unfold goL at hx hx'
  rw [List.getElem?_map] at hx hx'
  obtain ⟨b, hb, rfl⟩ := Option.map_eq_some_iff.1 hx
  obtain ⟨b', hb', rfl⟩ := Option.map_eq_some_iff.1 hx'
  have hr := h.2 i _ _ hb' hb
  have o := allGo_at ho hb
  obtain ⟨e, e1, e2⟩ := goOk_turn ht hg hg' hk hr
  obtain ⟨⟨x1, x2⟩, x3, x4⟩ := goBd_zero (loss := loss) o
  obtain ⟨⟨y1, y2⟩, y3, y4⟩ := goBd_zero (loss := loss) (e.trans o)
  exact ⟨⟨by rw [y1, x1, e2], by rw [y2, x2, e1]⟩, ⟨y3, y4⟩, x3, x4⟩
theorem run_turn {t : Int} {f : Bool} {gr gr' : Pt} {loss : Nat} {bs' bs : List Bd} (ht : inB t 0 3 = true) (hg : finP gr) (hg' : finP gr') (hk : keyP gr' = aI t f (keyP gr)) (h : TL t f bs' bs) :
    ∀ k, (runUp 0 gr' loss bs' k = none ∧ runUp 0 gr loss bs k = none) ∨ ∃ b' c' b c, runUp 0 gr' loss bs' k = some (b', c') ∧ runUp 0 gr loss bs k = some (b, c) ∧ TL t f b' b
  | 0 => .inr ⟨_, _, _, _, rfl, rfl, h⟩
  | k + 1 => by
    rcases run_turn ht hg hg' hk h k with ⟨h1, h2⟩ | ⟨b', c', b, c, h1, h2, h3⟩
    · exact .inl ⟨runUp_none h1 1, runUp_none h2 1⟩
    · cases ho : allGo gr b
      · exact .inl ⟨runUp_no h1 (by rw [allGo_turn ht hg hg' hk h3]; exact ho), runUp_no h2 ho⟩
      · exact .inr ⟨_, _, _, _, runUp_yes h1 (by rw [allGo_turn ht hg hg' hk h3]; exact ho), runUp_yes h2 ho, goL_turn ht hg hg' hk h3 ho⟩
theorem actP_key {t : Int} {f : Bool} {p : Pt} (ht : inB t 0 3 = true) (h : pointB p.1 p.2 = true) : keyP (actP t f p.1 p.2) = aI t f (keyP p) ∧ finP (actP t f p.1 p.2) := by
  rw [actP_yes ht h]
  exact actI_key (t := t) (f := f) (re := p.1) (im := p.2) (point_fin h)
theorem okBd_point {mir : Int} {b : Bd} (h : okBd mir b = true) : pointB b.1.1 b.1.2 = true ∧ pointB b.2.1 b.2.2 = true := by
  unfold okBd wedgeB at h
  rw [Bool.and_eq_true, Bool.and_eq_true] at h
  exact ⟨h.1.1, h.2⟩
theorem turn_TL {t : Int} {f : Bool} {mir : Int} {bs : List Bd} (ht : inB t 0 3 = true) (h : bs.all (okBd mir) = true) : TL t f (turnL t f bs) bs := by
  refine ⟨by simp [turnL], fun i b' b hb' hb => ?_⟩
  unfold turnL at hb'
  rw [List.getElem?_map, hb] at hb'
  injection hb' with hb'
  subst hb'
  obtain ⟨p1, p2⟩ := okBd_point (List.all_eq_true.1 h b (List.mem_of_getElem? hb))
  obtain ⟨a1, a2⟩ := actP_key (f := f) ht p1
  obtain ⟨b1, b2⟩ := actP_key (f := f) ht p2
  exact ⟨⟨a1, b1⟩, ⟨a2, b2⟩, point_fin p1, point_fin p2⟩
theorem eq_keys {p q : Pt} (hp : finP p) (hq : finP q) (h : keyP p = keyP q) : cxE p q = true := by
  unfold keyP at h
  injection h with h1 h2
  unfold cxE
  rw [eqB_fin hp.1 hq.1, eqB_fin hp.2 hq.2, h1, h2]
  simp
/-- what FnTurnedTumble asks -/
theorem turned {t : Int} {f : Bool} {gr : Pt} {loss : Nat} {bs : List Bd} (ht : inB t 0 3 = true) (h : tumB 0 gr loss bs = true) (k : Nat) :
    runS 0 (actP t f gr.1 gr.2) loss (turnL t f bs) k = runS 0 gr loss bs k ∧
    (runS 0 gr loss bs k = true → ∀ (i : Nat) x y, (runB 0 (actP t f gr.1 gr.2) loss (turnL t f bs) k)[i]? = some x → (turnL t f (runB 0 gr loss bs k))[i]? = some y → bdE x y = true) := by
  have hp := tumB_parts.1 h
  obtain ⟨g1, g2⟩ := actP_key (f := f) ht hp.2.1
  have hT := turn_TL (f := f) ht hp.2.2.2.2
  have hrb := runB_tum h k
  rcases run_turn (loss := loss) ht (point_fin hp.2.1) g2 g1 hT k with ⟨h1, h2⟩ | ⟨b', c', b, c, h1, h2, h3⟩
  · unfold runS
    rw [h1, h2]
    exact ⟨rfl, fun h => by cases h⟩
  · have e1 : runB 0 (actP t f gr.1 gr.2) loss (turnL t f bs) k = b' := by unfold runB; rw [h1]
    have e2 : runB 0 gr loss bs k = b := by unfold runB; rw [h2]
    rw [e2] at hrb
    unfold runS
    rw [h1, h2, e1, e2]
    refine ⟨rfl, fun _ i x y hx hy => ?_⟩
    have ho := (tumB_parts.1 hrb).2.2.2.2
    have hU := turn_TL (f := f) ht ho
    obtain ⟨z, hz, r1⟩ := TL_at' hU hy
    have r2 := h3.2 i _ _ hx hz
    unfold bdE
    rw [eq_keys r2.2.1.1 r1.2.1.1 (by rw [r2.1.1, r1.1.1]), eq_keys r2.2.1.2 r1.2.1.2 (by rw [r2.1.2, r1.1.2])]
    rfl
end Go.Proofs.YthlphmojldbpkaaGreat
