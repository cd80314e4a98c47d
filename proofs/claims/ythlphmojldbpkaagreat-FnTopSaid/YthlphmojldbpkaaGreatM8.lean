/- Clone · DelI · CloneS · HapS -/
import Derived.Test.YthlphmojldbpkaaGreatM1
import Derived.Test.YthlphmojldbpkaaGreatM6
import Derived.Test.YthlphmojldbpkaaGreatM3
import Derived.Deep.RegionLaw

/- Clone of shards and of events: the program's. -/
namespace Go.Proofs.YthlphmojldbpkaaGreat
open Go.RowKit
attribute [local go_sem] run_store_float run_store_complex

theorem infoShd : (Tryz.prog.info? 36).map (fun i => (i.zero, i.size, i.bytes)) = some (some (.agg #[.complex .f32 0 0, .complex .f32 0 0, .complex .f32 0 0, .float .f32 0, .float .f32 0, .float .f32 0, .float .f32 0]), 7, 40) := by kernel_rfl
theorem infoEv : (Tryz.prog.info? 38).map (fun i => (i.zero, i.size, i.bytes)) = some (some (.agg #[.int .i64 0, .int .i64 0, .complex .f32 0 0, .complex .f32 0 0, .complex .f32 0 0, .complex .f32 0 0, .float .f32 0, .float .f32 0, .float .f32 0, .float .f32 0, .float .f32 0, .float .f32 0, .float .f32 0]), 13, 80) := by kernel_rfl
theorem shC_one (xs : List Sh) : ∀ u ∈ flat shC xs, u.oneCell' = true := by
  intro u hu
  unfold flat at hu
  obtain ⟨b, _, hb⟩ := List.mem_flatMap.1 hu
  simp [shC] at hb
  rcases hb with rfl | rfl | rfl | rfl | rfl | rfl | rfl <;> rfl

set_option maxRecDepth 100000 in
set_option maxHeartbeats 2000000 in
theorem cloneSh_any (A : Option Addr) (n c : Nat) (bs : List Sh) (w : World) (hn : n ≤ 1000) (ha : Rd shC 7 w w.heap.size A n bs) :
    Calls Tryz.prog 76 #[.slice A n c] w fun e w' => ∃ B d, e = .returned (.slice B n d) ∧ w'.ownsRow w.heap.size 36 7 (.slice B n d) n (flat shC bs) ∧ Below w.heap.size w w' := by
  obtain ⟨i0, hi, hz0, hz1, hz2⟩ := info_parts infoShd
  cases A with
  | none =>
    have h0 : n = 0 := by
      rcases Nat.eq_zero_or_pos n with h | h
      · exact h
      · obtain ⟨b, off, e, _⟩ := ha.2 h; cases e
    subst h0
    have hb : bs = [] := List.eq_nil_of_length_eq_zero ha.1
    subst hb
    have hq := fun wx => Lib.run_eql_slice_nil (P := Tryz.prog) wx 27 36 none 0 c 0 0 Tryz.underlying27
    go_enter Tryz.func76, Tryz.ntmps76
    go_wp2
    go_ret
    exact ⟨none, 0, rfl, ⟨rfl, .inl ⟨rfl, rfl⟩⟩, Below.refl _ _⟩
  | some ad =>
    have hq := fun wx => Lib.run_eql_slice_nil (P := Tryz.prog) wx 27 36 (some ad) n c 0 0 Tryz.underlying27
    have hB := (show Below w.heap.size w (w.alloc (Obj.cells #[] 36)) by (repeat (first | with_reducible assumption | exact Below.refl _ _ | (refine Below.setCell ?_ (by first | exact Nat.le_refl _ | (simp; done) | omega | (simp; omega)) _) | (refine below_drewN ?_ _) | (refine Below.drew ?_) | (refine Below.alloc ?_ (by first | exact Nat.le_refl _ | (simp; done) | omega | (simp; omega)) _) | (refine then_ ?_ (by with_reducible assumption)) | assumption | (refine then_ ?_ (by assumption)))))
    have o0 := Lib.hid (World.ownsRow_lit (base := w.heap.size) (size := 7) (e := 36) w #[] 0 (Nat.le_refl _) (by simp [maxLen]) rfl)
    have r1 := Lib.hid (ha.step hB)
    have hlen : (flat shC bs).length = n * 7 := by rw [flat_length shC_len, ha.1]
    clear ha
    go_enter Tryz.func76, Tryz.ntmps76
    go_wp2_with (at_builtin; refine wpList_append_own_at _ rfl _ _ 27 rfl w.heap.size 36 i0 (.agg #[.complex .f32 0 0, .complex .f32 0 0, .complex .f32 0 0, .float .f32 0, .float .f32 0, .float .f32 0, .float .f32 0]) 7 40 Tryz.underlying27 hi hz0 hz1 hz2 rfl (by decide) _ _ _ rfl o0.out ad n c (flat shC bs) rfl hlen (Rd.cells shC_len (by omega) r1.out) (shC_one bs) (by unfold maxLen; omega) (by omega) (by simp) ?_; intro v3 w3 hown3 hg3 hne3 hat3; have GB3 := Lib.hid hg3; have OW3 := Lib.hid hown3; clear hown3 hg3 hne3 hat3)
    obtain ⟨B3, d3, rfl⟩ := owns_slice OW3.out
    have own := OW3.out
    rw [Nat.zero_add, List.nil_append] at own
    go_ret
    refine ⟨B3, d3, by show Ending.returned (Value.slice B3 (0 + n) d3) = _; rw [Nat.zero_add], own, hB.grown GB3.out (by simp) (fun k hk => ?_)⟩
    exact (o0.out.lt k hk).1


theorem evC_one (xs : List Ev) : ∀ u ∈ flat evC xs, u.oneCell' = true := by
  intro u hu
  unfold flat at hu
  obtain ⟨b, _, hb⟩ := List.mem_flatMap.1 hu
  simp [evC] at hb
  rcases hb with rfl | rfl | rfl | rfl | rfl | rfl | rfl | rfl | rfl | rfl | rfl | rfl | rfl <;> rfl

set_option maxRecDepth 100000 in
set_option maxHeartbeats 2000000 in
theorem cloneEv_any (A : Option Addr) (n c : Nat) (bs : List Ev) (w : World) (hn : n ≤ 1000) (ha : Rd evC 13 w w.heap.size A n bs) :
    Calls Tryz.prog 78 #[.slice A n c] w fun e w' => ∃ B d, e = .returned (.slice B n d) ∧ w'.ownsRow w.heap.size 38 13 (.slice B n d) n (flat evC bs) ∧ Below w.heap.size w w' := by
  obtain ⟨i0, hi, hz0, hz1, hz2⟩ := info_parts infoEv
  cases A with
  | none =>
    have h0 : n = 0 := by
      rcases Nat.eq_zero_or_pos n with h | h
      · exact h
      · obtain ⟨b, off, e, _⟩ := ha.2 h; cases e
    subst h0
    have hb : bs = [] := List.eq_nil_of_length_eq_zero ha.1
    subst hb
    have hq := fun wx => Lib.run_eql_slice_nil (P := Tryz.prog) wx 32 38 none 0 c 0 0 Tryz.underlying32
    go_enter Tryz.func78, Tryz.ntmps78
    go_wp2
    go_ret
    exact ⟨none, 0, rfl, ⟨rfl, .inl ⟨rfl, rfl⟩⟩, Below.refl _ _⟩
  | some ad =>
    have hq := fun wx => Lib.run_eql_slice_nil (P := Tryz.prog) wx 32 38 (some ad) n c 0 0 Tryz.underlying32
    have hB := (show Below w.heap.size w (w.alloc (Obj.cells #[] 38)) by (repeat (first | with_reducible assumption | exact Below.refl _ _ | (refine Below.setCell ?_ (by first | exact Nat.le_refl _ | (simp; done) | omega | (simp; omega)) _) | (refine below_drewN ?_ _) | (refine Below.drew ?_) | (refine Below.alloc ?_ (by first | exact Nat.le_refl _ | (simp; done) | omega | (simp; omega)) _) | (refine then_ ?_ (by with_reducible assumption)) | assumption | (refine then_ ?_ (by assumption)))))
    have o0 := Lib.hid (World.ownsRow_lit (base := w.heap.size) (size := 13) (e := 38) w #[] 0 (Nat.le_refl _) (by simp [maxLen]) rfl)
    have r1 := Lib.hid (ha.step hB)
    have hlen : (flat evC bs).length = n * 13 := by rw [flat_length evC_len, ha.1]
    clear ha
    go_enter Tryz.func78, Tryz.ntmps78
    go_wp2_with (at_builtin; refine wpList_append_own_at _ rfl _ _ 32 rfl w.heap.size 38 i0 (.agg #[.int .i64 0, .int .i64 0, .complex .f32 0 0, .complex .f32 0 0, .complex .f32 0 0, .complex .f32 0 0, .float .f32 0, .float .f32 0, .float .f32 0, .float .f32 0, .float .f32 0, .float .f32 0, .float .f32 0]) 13 80 Tryz.underlying32 hi hz0 hz1 hz2 rfl (by decide) _ _ _ rfl o0.out ad n c (flat evC bs) rfl hlen (Rd.cells evC_len (by omega) r1.out) (evC_one bs) (by unfold maxLen; omega) (by omega) (by simp) ?_; intro v3 w3 hown3 hg3 hne3 hat3; have GB3 := Lib.hid hg3; have OW3 := Lib.hid hown3; clear hown3 hg3 hne3 hat3)
    obtain ⟨B3, d3, rfl⟩ := owns_slice OW3.out
    have own := OW3.out
    rw [Nat.zero_add, List.nil_append] at own
    go_ret
    refine ⟨B3, d3, by show Ending.returned (Value.slice B3 (0 + n) d3) = _; rw [Nat.zero_add], own, hB.grown GB3.out (by simp) (fun k hk => ?_)⟩
    exact (o0.out.lt k hk).1

end Go.Proofs.YthlphmojldbpkaaGreat

/- slices.Delete of one element: the program's. -/
namespace Go.Proofs.YthlphmojldbpkaaGreat
open Go.RowKit
attribute [local go_sem] run_store_float run_store_complex

theorem zeroBdD (w : World) : (zeroValue 54).run Tryz.prog w = .ok (Value.agg #[.complex .f32 0 0, .complex .f32 0 0]) w := by kernel_rfl
theorem zeroCellsBd (n : Nat) : ∀ v ∈ (Builtin.zeroCells (Value.agg #[.complex .f32 0 0, .complex .f32 0 0]).cells n).toList, v.oneCell' = true := by
  intro v hv
  unfold Builtin.zeroCells at hv
  rw [Array.toList_map, List.mem_map] at hv
  obtain ⟨i, _, rfl⟩ := hv
  have : i % (Value.agg #[.complex .f32 0 0, .complex .f32 0 0]).cells.size < 2 := Nat.mod_lt _ (by decide)
  generalize i % (Value.agg #[.complex .f32 0 0, .complex .f32 0 0]).cells.size = k at this
  rcases (by omega : k = 0 ∨ k = 1) with rfl | rfl <;> rfl
set_option maxRecDepth 100000 in
set_option maxHeartbeats 4000000 in
theorem deleteBd_any (g n c i : Nat) (bs : List Bd) (base : Nat) (w : World) (hi : i < n) (hn : n ≤ 1000) (hl : bs.length = n) (own : w.ownsRow base 54 2 (.slice (some ⟨g, 0, none⟩) n c) n (flat bdC bs)) :
    Calls Tryz.prog 80 #[.slice (some ⟨g, 0, none⟩) n c, .int .i64 (i : Int), .int .i64 ((i : Int) + 1)] w fun e w' => e = .returned (.slice (some ⟨g, 0, none⟩) (n - 1) c) ∧ w'.ownsRow base 54 2 (.slice (some ⟨g, 0, none⟩) (n - 1) c) (n - 1) (flat bdC (bs.eraseIdx i)) ∧ w.grownBy w' (some g) := by
  obtain ⟨i0, hi0, hz0, hz1, hz2⟩ := info_parts infoBd
  obtain ⟨ga, ea, hnc, hcm⟩ := owns_slice_at own (by omega)
  injection ea with ea
  injection ea with ea
  subst ea
  unfold maxLen at hcm
  have rd := Rd.of_own bdC_len hl own
  have hN := del_news bdC_len (i := i) (by omega) rd
  obtain ⟨mv, hmv⟩ : ∃ mv, mv = flat bdC (bs.drop (i + 1)) := ⟨_, rfl⟩
  rw [← hmv] at hN
  have hml : mv.length = (n - (i + 1)) * 2 := by rw [hmv, flat_length bdC_len, List.length_drop, hl]
  have s1 := Lib.hid hml
  have s2 : Hid (∀ u ∈ mv, u.oneCell' = true) := Lib.hid (by rw [hmv]; exact bdC_one _)
  have s3 : Hid (∀ j, j < mv.length → (w.drew.cell? ⟨g, 0 + i * 2 + j, none⟩).isSome = true ∧ w.drew.frozen? ⟨g, 0 + i * 2 + j, none⟩ = false) := Lib.hid (by
    intro j hj
    rw [hml] at hj
    obtain ⟨v, hv⟩ := owns_cell own (i * 2 + j) (by omega)
    rw [Nat.zero_add]
    exact ⟨by show (w.cell? _).isSome = true; rw [hv]; rfl, own.frozenAt _⟩)
  have D := Lib.hid (del_own (w := w.drew) bdC_len (own_drewN own 1) hl hi)
  rw [← hmv] at D
  have ON := Lib.hid (own_setL mv (i * 2) w.drew _ (own_drewN own 1))
  have hnews : Hid (∀ A : Addr, (A = ⟨g, (i + 1) * 2, none⟩ ∨ c = i + 1) → ∀ j u, mv[j]? = some u → w.drew.cell? (A.add j) = some u) := Lib.hid (by
    intro A hA j u hu
    rcases hA with rfl | hA
    · rw [Addr.add_lit]; exact hN j u hu
    · have := (List.getElem?_eq_some_iff.1 hu).1
      rw [hml] at this
      have : (n - (i + 1)) = 0 := by omega
      rw [this] at *
      omega)
  obtain ⟨A, hA, hAn⟩ : ∃ A : Addr, (if c = i + 1 then some (⟨g, 0, none⟩ : Addr) else some ⟨g, (i + 1) * 2, none⟩) = some A ∧ (A = ⟨g, (i + 1) * 2, none⟩ ∨ c = i + 1) := by
    by_cases h : c = i + 1
    · exact ⟨_, by rw [if_pos h], .inr h⟩
    · exact ⟨_, by rw [if_neg h], .inl rfl⟩
  have OW := Lib.hid own
  have hci : ¬ c = n - 1 := by omega
  have hic : i ≤ c := by omega
  have hii : (i : Int) ≤ (i : Int) + 1 := by omega
  have hne : ((i : Int) == (i : Int) + 1) = false := by rw [beq_eq_false_iff_ne]; omega
  have hp0 : (0 : Int) ≤ (i : Int) + 1 := by omega
  have hp1 : (i : Int) + 1 ≤ (n : Int) := by omega
  have hp2 : ((i : Int) + 1).toNat = i + 1 := by omega
  have hp3 : i + (n - (i + 1)) = n - 1 := by omega
  have hin : (i : Int) ≤ (n : Int) := by omega
  clear hmv hml hN rd own
  go_enter Tryz.func80, Tryz.ntmps80
  go_wp2_with fail
  go_region_law (refine step_append_room rfl (.tmp 22) (.tmp 25) 29 rfl 54 i0 2 Tryz.underlying29 hi0 hz1 g 0 i c (by simp [Act.eval, Act.put]) A (n - (i + 1)) (c - (i + 1)) mv (by simp [Act.eval, Act.put]) s1.out (hnews.out A hAn) s2.out (by omega) s3.out ?_)
  obtain ⟨U, hU⟩ : ∃ U, U = w.drew.setCells g (i * 2) mv := ⟨_, rfl⟩
  have ou : U.ownsRow base 54 2 (.slice (some ⟨g, 0, none⟩) (n - 1) c) (n - 1) (flat bdC (bs.eraseIdx i)) := by rw [hU]; exact D.out
  have on := ON.out
  rw [← hU] at on ⊢
  have gu : w.grownBy U (some g) := by rw [hU]; exact grown_setCells _ _ _ (grown_drewN (World.grownBy.refl _ _) 1)
  have bg : base ≤ g := (ou.lt g rfl).1
  clear hU D ON s3
  have hcl := fun ty => run_clear_row (P := Tryz.prog) U 29 54 ty (Value.agg #[.complex .f32 0 0, .complex .f32 0 0]) Tryz.underlying29 zeroBdD g ((n - 1) * 2) 1 (c - (n - 1)) (by omega) (zeroCellsBd _)
    (fun k hk => by
      have hk : k < 1 * 2 := hk
      obtain ⟨v, hv⟩ := owns_cell on ((n - 1) * 2 + k) (by omega)
      rw [hv]; rfl) (fun k _ => on.frozenAt _)
  have hn1 : ((n - 1 : Nat) : Int) ≤ (n : Int) := by omega
  have hn2 : n - (n - 1) = 1 := by omega
  have hn3 : (n : Int) ≤ (c : Int) := by omega
  clear on
  go_wp2
  go_ret
  exact ⟨rfl, own_beyonds _ _ _ ou (Nat.le_refl _), grown_setCells _ _ _ gu⟩

theorem zeroShD (w : World) : (zeroValue 36).run Tryz.prog w = .ok (Value.agg #[.complex .f32 0 0, .complex .f32 0 0, .complex .f32 0 0, .float .f32 0, .float .f32 0, .float .f32 0, .float .f32 0]) w := by kernel_rfl
theorem zeroCellsSh (n : Nat) : ∀ v ∈ (Builtin.zeroCells (Value.agg #[.complex .f32 0 0, .complex .f32 0 0, .complex .f32 0 0, .float .f32 0, .float .f32 0, .float .f32 0, .float .f32 0]).cells n).toList, v.oneCell' = true := by
  intro v hv
  unfold Builtin.zeroCells at hv
  rw [Array.toList_map, List.mem_map] at hv
  obtain ⟨i, _, rfl⟩ := hv
  have : i % (Value.agg #[.complex .f32 0 0, .complex .f32 0 0, .complex .f32 0 0, .float .f32 0, .float .f32 0, .float .f32 0, .float .f32 0]).cells.size < 7 := Nat.mod_lt _ (by decide)
  generalize i % (Value.agg #[.complex .f32 0 0, .complex .f32 0 0, .complex .f32 0 0, .float .f32 0, .float .f32 0, .float .f32 0, .float .f32 0]).cells.size = k at this
  rcases (by omega : k = 0 ∨ k = 1 ∨ k = 2 ∨ k = 3 ∨ k = 4 ∨ k = 5 ∨ k = 6) with rfl | rfl | rfl | rfl | rfl | rfl | rfl <;> rfl
set_option maxRecDepth 100000 in
set_option maxHeartbeats 4000000 in
theorem deleteSh_any (g n c i : Nat) (bs : List Sh) (base : Nat) (w : World) (hi : i < n) (hn : n ≤ 1000) (hl : bs.length = n) (own : w.ownsRow base 36 7 (.slice (some ⟨g, 0, none⟩) n c) n (flat shC bs)) :
    Calls Tryz.prog 79 #[.slice (some ⟨g, 0, none⟩) n c, .int .i64 (i : Int), .int .i64 ((i : Int) + 1)] w fun e w' => e = .returned (.slice (some ⟨g, 0, none⟩) (n - 1) c) ∧ w'.ownsRow base 36 7 (.slice (some ⟨g, 0, none⟩) (n - 1) c) (n - 1) (flat shC (bs.eraseIdx i)) ∧ w.grownBy w' (some g) := by
  obtain ⟨i0, hi0, hz0, hz1, hz2⟩ := info_parts infoShd
  obtain ⟨ga, ea, hnc, hcm⟩ := owns_slice_at own (by omega)
  injection ea with ea
  injection ea with ea
  subst ea
  unfold maxLen at hcm
  have rd := Rd.of_own shC_len hl own
  have hN := del_news shC_len (i := i) (by omega) rd
  obtain ⟨mv, hmv⟩ : ∃ mv, mv = flat shC (bs.drop (i + 1)) := ⟨_, rfl⟩
  rw [← hmv] at hN
  have hml : mv.length = (n - (i + 1)) * 7 := by rw [hmv, flat_length shC_len, List.length_drop, hl]
  have s1 := Lib.hid hml
  have s2 : Hid (∀ u ∈ mv, u.oneCell' = true) := Lib.hid (by rw [hmv]; exact shC_one _)
  have s3 : Hid (∀ j, j < mv.length → (w.drew.cell? ⟨g, 0 + i * 7 + j, none⟩).isSome = true ∧ w.drew.frozen? ⟨g, 0 + i * 7 + j, none⟩ = false) := Lib.hid (by
    intro j hj
    rw [hml] at hj
    obtain ⟨v, hv⟩ := owns_cell own (i * 7 + j) (by omega)
    rw [Nat.zero_add]
    exact ⟨by show (w.cell? _).isSome = true; rw [hv]; rfl, own.frozenAt _⟩)
  have D := Lib.hid (del_own (w := w.drew) shC_len (own_drewN own 1) hl hi)
  rw [← hmv] at D
  have ON := Lib.hid (own_setL mv (i * 7) w.drew _ (own_drewN own 1))
  have hnews : Hid (∀ A : Addr, (A = ⟨g, (i + 1) * 7, none⟩ ∨ c = i + 1) → ∀ j u, mv[j]? = some u → w.drew.cell? (A.add j) = some u) := Lib.hid (by
    intro A hA j u hu
    rcases hA with rfl | hA
    · rw [Addr.add_lit]; exact hN j u hu
    · have := (List.getElem?_eq_some_iff.1 hu).1
      rw [hml] at this
      have : (n - (i + 1)) = 0 := by omega
      rw [this] at *
      omega)
  obtain ⟨A, hA, hAn⟩ : ∃ A : Addr, (if c = i + 1 then some (⟨g, 0, none⟩ : Addr) else some ⟨g, (i + 1) * 7, none⟩) = some A ∧ (A = ⟨g, (i + 1) * 7, none⟩ ∨ c = i + 1) := by
    by_cases h : c = i + 1
    · exact ⟨_, by rw [if_pos h], .inr h⟩
    · exact ⟨_, by rw [if_neg h], .inl rfl⟩
  have OW := Lib.hid own
  have hci : ¬ c = n - 1 := by omega
  have hic : i ≤ c := by omega
  have hii : (i : Int) ≤ (i : Int) + 1 := by omega
  have hne : ((i : Int) == (i : Int) + 1) = false := by rw [beq_eq_false_iff_ne]; omega
  have hp0 : (0 : Int) ≤ (i : Int) + 1 := by omega
  have hp1 : (i : Int) + 1 ≤ (n : Int) := by omega
  have hp2 : ((i : Int) + 1).toNat = i + 1 := by omega
  have hp3 : i + (n - (i + 1)) = n - 1 := by omega
  have hin : (i : Int) ≤ (n : Int) := by omega
  clear hmv hml hN rd own
  go_enter Tryz.func79, Tryz.ntmps79
  go_wp2_with fail
  go_region_law (refine step_append_room rfl (.tmp 22) (.tmp 25) 27 rfl 36 i0 7 Tryz.underlying27 hi0 hz1 g 0 i c (by simp [Act.eval, Act.put]) A (n - (i + 1)) (c - (i + 1)) mv (by simp [Act.eval, Act.put]) s1.out (hnews.out A hAn) s2.out (by omega) s3.out ?_)
  obtain ⟨U, hU⟩ : ∃ U, U = w.drew.setCells g (i * 7) mv := ⟨_, rfl⟩
  have ou : U.ownsRow base 36 7 (.slice (some ⟨g, 0, none⟩) (n - 1) c) (n - 1) (flat shC (bs.eraseIdx i)) := by rw [hU]; exact D.out
  have on := ON.out
  rw [← hU] at on ⊢
  have gu : w.grownBy U (some g) := by rw [hU]; exact grown_setCells _ _ _ (grown_drewN (World.grownBy.refl _ _) 1)
  have bg : base ≤ g := (ou.lt g rfl).1
  clear hU D ON s3
  have hcl := fun ty => run_clear_row (P := Tryz.prog) U 27 36 ty (Value.agg #[.complex .f32 0 0, .complex .f32 0 0, .complex .f32 0 0, .float .f32 0, .float .f32 0, .float .f32 0, .float .f32 0]) Tryz.underlying27 zeroShD g ((n - 1) * 7) 1 (c - (n - 1)) (by omega) (zeroCellsSh _)
    (fun k hk => by
      have hk : k < 1 * 7 := hk
      obtain ⟨v, hv⟩ := owns_cell on ((n - 1) * 7 + k) (by omega)
      rw [hv]; rfl) (fun k _ => on.frozenAt _)
  have hn1 : ((n - 1 : Nat) : Int) ≤ (n : Int) := by omega
  have hn2 : n - (n - 1) = 1 := by omega
  have hn3 : (n : Int) ≤ (c : Int) := by omega
  clear on
  go_wp2
  go_ret
  exact ⟨rfl, own_beyonds _ _ _ ou (Nat.le_refl _), grown_setCells _ _ _ gu⟩

end Go.Proofs.YthlphmojldbpkaaGreat

/- cloneShow: the program's. -/
namespace Go.Proofs.YthlphmojldbpkaaGreat
open Go.RowKit
attribute [local go_sem] run_store_float run_store_complex

def Apart (v v' : Value) : Prop := ∀ g, v.ownBlock = some g → v'.ownBlock ≠ some g
theorem apart_base {w w' : World} {b b' : Nat} {E E' : TypeId} {z z' : Nat} {v v' : Value} {n n' : Nat} {xs xs' : List Value} (h : w.ownsRow b E z v n xs) (h' : w'.ownsRow b' E' z' v' n' xs') (hb : w.heap.size ≤ b') : Apart v v' := fun g hg hg' => by
  have := (h.lt g hg).2
  have := (h'.lt g hg').1
  omega
/-- a show whose three slices are the call's own, each apart from the others -/
def OwnS (w : World) (base : Nat) (s : Shw) (A B L : Option Addr) (c d q : Nat) : Prop :=
  w.ownsRow base 36 7 (.slice A s.sh.length c) s.sh.length (flat shC s.sh) ∧ w.ownsRow base 54 2 (.slice B s.bs.length d) s.bs.length (flat bdC s.bs) ∧ w.ownsRow base 38 13 (.slice L s.log.length q) s.log.length (flat evC s.log) ∧
  Apart (.slice A s.sh.length c) (.slice B s.bs.length d) ∧ Apart (.slice A s.sh.length c) (.slice L s.log.length q) ∧ Apart (.slice B s.bs.length d) (.slice L s.log.length q)
/-- a show that can be read -/
def RdS (w : World) (s : Shw) (A B L : Option Addr) : Prop := Rd shC 7 w w.heap.size A s.sh.length s.sh ∧ Rd bdC 2 w w.heap.size B s.bs.length s.bs ∧ Rd evC 13 w w.heap.size L s.log.length s.log
theorem RdS.step {w w' : World} {s : Shw} {A B L : Option Addr} (h : RdS w s A B L) (hb : Below w.heap.size w w') : RdS w' s A B L := ⟨h.1.step hb, h.2.1.step hb, h.2.2.step hb⟩
theorem OwnS.rd {w : World} {base : Nat} {s : Shw} {A B L : Option Addr} {c d q : Nat} (h : OwnS w base s A B L c d q) : RdS w s A B L := ⟨Rd.of_own shC_len rfl h.1, Rd.of_own bdC_len rfl h.2.1, Rd.of_own evC_len rfl h.2.2.1⟩
theorem OwnS.below {w w' : World} {base : Nat} {s : Shw} {A B L : Option Addr} {c d q : Nat} (h : OwnS w base s A B L c d q) (hb : Below w.heap.size w w') : OwnS w' base s A B L c d q := ⟨owns_below h.1 hb, owns_below h.2.1 hb, owns_below h.2.2.1 hb, h.2.2.2⟩
theorem OwnS.mono {w : World} {base base' : Nat} {s : Shw} {A B L : Option Addr} {c d q : Nat} (h : OwnS w base s A B L c d q) (hb : base' ≤ base) : OwnS w base' s A B L c d q := ⟨owns_mono h.1 hb, owns_mono h.2.1 hb, owns_mono h.2.2.1 hb, h.2.2.2⟩
theorem OwnS.set {w : World} {base : Nat} {s : Shw} {A B L : Option Addr} {c d q : Nat} (h : OwnS w base s A B L c d q) (p : Addr) (hp : p.block < base) (u : Value) : OwnS (w.setCell p u) base s A B L c d q := ⟨ownsRow_setCell_below h.1 hp u, ownsRow_setCell_below h.2.1 hp u, ownsRow_setCell_below h.2.2.1 hp u, h.2.2.2⟩

set_option maxRecDepth 100000 in
set_option maxHeartbeats 4000000 in
theorem cloneShow_any (s : Shw) (A B L : Option Addr) (c d q : Nat) (w : World) (hn : s.sh.length ≤ 1000) (hm : s.bs.length ≤ 8) (hp : s.log.length ≤ 1000) (hr : RdS w s A B L) :
    Calls Tryz.prog 32 #[.agg #[.int .i64 s.sz, .float .f32 s.st, .float .f32 s.li.1, .float .f32 s.li.2.1, .float .f32 s.li.2.2, .slice A s.sh.length c, .int .i64 s.mir, .complex .f32 s.gr.1 s.gr.2, .float .f32 s.loss, .slice B s.bs.length d, .int .i64 s.tk, .slice L s.log.length q]] w fun e w' => (∃ A B L c d q, e = .returned (.agg #[.int .i64 s.sz, .float .f32 s.st, .float .f32 s.li.1, .float .f32 s.li.2.1, .float .f32 s.li.2.2, .slice A s.sh.length c, .int .i64 s.mir, .complex .f32 s.gr.1 s.gr.2, .float .f32 s.loss, .slice B s.bs.length d, .int .i64 s.tk, .slice L s.log.length q]) ∧ OwnS w' w.heap.size s A B L c d q) ∧ Below w.heap.size w w' := by
  obtain ⟨n, hnn⟩ : ∃ n, n = s.sh.length := ⟨_, rfl⟩
  obtain ⟨m, hmm⟩ : ∃ m, m = s.bs.length := ⟨_, rfl⟩
  obtain ⟨p, hpp⟩ : ∃ p, p = s.log.length := ⟨_, rfl⟩
  have HR := Lib.hid hr
  have KS := Lib.hid (fun w h => cloneSh_any A n c s.sh w (by omega) h)
  have KB := Lib.hid (fun w h => cloneTumble_any s.mir s.gr s.loss B m d s.bs w (by omega) h)
  have KE := Lib.hid (fun w h => cloneEv_any L p q s.log w (by omega) h)
  unfold RdS at hr
  unfold OwnS
  rw [← hnn, ← hmm, ← hpp] at hr ⊢
  obtain ⟨rS, rB, rL⟩ := hr
  clear hnn hmm hpp HR hn hm hp
  go_enter Tryz.func32, Tryz.ntmps32
  go_wp2_with fail
  have hW := Below.refl w.heap.size w
  have ca := CA.new w #[.int .i64 s.sz, .float .f32 s.st, .float .f32 s.li.1, .float .f32 s.li.2.1, .float .f32 s.li.2.2, .slice A n c, .int .i64 s.mir, .complex .f32 s.gr.1 s.gr.2, .float .f32 s.loss, .slice B m d, .int .i64 s.tk, .slice L p q] 34; have fa := FA.new w #[.int .i64 s.sz, .float .f32 s.st, .float .f32 s.li.1, .float .f32 s.li.2.1, .float .f32 s.li.2.2, .slice A n c, .int .i64 s.mir, .complex .f32 s.gr.1 s.gr.2, .float .f32 s.loss, .slice B m d, .int .i64 s.tk, .slice L p q] 34; replace hW := hW.alloc (hW.size) (Obj.cells #[.int .i64 s.sz, .float .f32 s.st, .float .f32 s.li.1, .float .f32 s.li.2.1, .float .f32 s.li.2.2, .slice A n c, .int .i64 s.mir, .complex .f32 s.gr.1 s.gr.2, .float .f32 s.loss, .slice B m d, .int .i64 s.tk, .slice L p q] 34); obtain ⟨V, hVe⟩ : ∃ V, V = w.alloc (Obj.cells #[.int .i64 s.sz, .float .f32 s.st, .float .f32 s.li.1, .float .f32 s.li.2.1, .float .f32 s.li.2.2, .slice A n c, .int .i64 s.mir, .complex .f32 s.gr.1 s.gr.2, .float .f32 s.loss, .slice B m d, .int .i64 s.tk, .slice L p q] 34) := ⟨_, rfl⟩; have zV : V.heap.size = w.heap.size + 1 := (by rw [hVe]; simp); rw [← hVe] at ca fa hW; rw [← hVe]; clear hVe; have la := ca.lt
  have cb := CA.new V #[.int .i64 0, .float .f32 0, .float .f32 0, .float .f32 0, .float .f32 0, .slice none 0 0, .int .i64 0, .complex .f32 0 0, .float .f32 0, .slice none 0 0, .int .i64 0, .slice none 0 0] 34; have fb := FA.new V #[.int .i64 0, .float .f32 0, .float .f32 0, .float .f32 0, .float .f32 0, .slice none 0 0, .int .i64 0, .complex .f32 0 0, .float .f32 0, .slice none 0 0, .int .i64 0, .slice none 0 0] 34; replace ca := ca.alloc (Obj.cells #[.int .i64 0, .float .f32 0, .float .f32 0, .float .f32 0, .float .f32 0, .slice none 0 0, .int .i64 0, .complex .f32 0 0, .float .f32 0, .slice none 0 0, .int .i64 0, .slice none 0 0] 34); replace fa := fa.alloc la (Obj.cells #[.int .i64 0, .float .f32 0, .float .f32 0, .float .f32 0, .float .f32 0, .slice none 0 0, .int .i64 0, .complex .f32 0 0, .float .f32 0, .slice none 0 0, .int .i64 0, .slice none 0 0] 34); replace hW := hW.alloc (hW.size) (Obj.cells #[.int .i64 0, .float .f32 0, .float .f32 0, .float .f32 0, .float .f32 0, .slice none 0 0, .int .i64 0, .complex .f32 0 0, .float .f32 0, .slice none 0 0, .int .i64 0, .slice none 0 0] 34); obtain ⟨W, hWe⟩ : ∃ W, W = V.alloc (Obj.cells #[.int .i64 0, .float .f32 0, .float .f32 0, .float .f32 0, .float .f32 0, .slice none 0 0, .int .i64 0, .complex .f32 0 0, .float .f32 0, .slice none 0 0, .int .i64 0, .slice none 0 0] 34) := ⟨_, rfl⟩; have zW : W.heap.size = V.heap.size + 1 := (by rw [hWe]; simp); rw [← hWe] at cb fb ca fa hW; rw [← hWe]; clear hWe; have lb := cb.lt; replace la := ca.lt
  rw [zV] at cb fb lb zW
  clear zV
  have lW0 : w.heap.size < W.heap.size := by omega
  have lW1 : w.heap.size + 1 < W.heap.size := by omega
  have l1 : w.heap.size ≤ w.heap.size + 1 := by omega
  have l0 : w.heap.size ≤ w.heap.size := Nat.le_refl _
  have n01 : ¬ w.heap.size + 1 = w.heap.size := by omega
  have n10 : ¬ w.heap.size = w.heap.size + 1 := by omega
  (with_reducible refine (KS.out _ (rS.step hW)).mono ?_)
  rintro e w1 ⟨A1, c1, rfl, oS, hb⟩
  have z1 := hb.size
  replace ca := ca.keep hb; replace fa := fa.keep hb la; replace la := ca.lt; replace cb := cb.keep hb; replace fb := fb.keep hb lb; replace lb := cb.lt; replace hW := then_ hW hb
  clear hb rS KS
  have a5 := ca 5 _ rfl
  have f5 := fa 5
  go_upto_region 2 with fail
  clear a5 f5
  replace ca := (ca.put 5 (.slice A1 n c1)); replace fa := (fa.set ⟨w.heap.size, 5, none⟩ (.slice A1 n c1)); replace cb := (cb.other ⟨w.heap.size, 5, none⟩ (.slice A1 n c1) n01); replace fb := (fb.set ⟨w.heap.size, 5, none⟩ (.slice A1 n c1)); replace oS := (own_setp oS lW0 5 (.slice A1 n c1)); replace hW := (hW.setCell (p := ⟨w.heap.size, 5, none⟩) l0 (.slice A1 n c1)); obtain ⟨U1, hU1e⟩ : ∃ U1, U1 = (w1.setCell ⟨w.heap.size, 5, none⟩ (.slice A1 n c1)) := ⟨_, rfl⟩; have zU1 : U1.heap.size = w1.heap.size := (by rw [hU1e]; simp); rw [← hU1e] at ca fa cb fb oS hW; rw [← hU1e]; clear hU1e; replace la := ca.lt; replace lb := cb.lt
  have a6 := ca 6 _ rfl; have a7 := ca 7 _ rfl; have a8 := ca 8 _ rfl; have a9 := ca 9 _ rfl
  go_wp2_with fail
  (with_reducible refine (KB.out _ (rB.step hW)).mono ?_)
  rintro e w2 ⟨B1, d1, rfl, oB, hb⟩
  clear a6 a7 a8 a9
  have apSB := apart_base oS oB (Nat.le_refl _)
  replace oB := owns_mono oB (show W.heap.size ≤ U1.heap.size by omega)
  have z2 := hb.size
  replace ca := ca.keep hb; replace fa := fa.keep hb la; replace la := ca.lt; replace cb := cb.keep hb; replace fb := fb.keep hb lb; replace lb := cb.lt; replace oS := owns_below oS hb; replace hW := then_ hW hb
  clear hb rB KB
  have a6 := ca 6 _ rfl; have a7 := ca 7 _ rfl; have a8 := ca 8 _ rfl; have a9 := ca 9 _ rfl
  have f6 := fa 6; have f7 := fa 7; have f8 := fa 8; have f9 := fa 9
  go_upto_region 3 with fail
  clear a6 a7 a8 a9 f6 f7 f8 f9
  replace ca := ((((ca.put 6 (.int .i64 s.mir)).put 7 (.complex .f32 s.gr.1 s.gr.2)).put 8 (.float .f32 s.loss)).put 9 (.slice B1 m d1)); replace fa := ((((fa.set ⟨w.heap.size, 6, none⟩ (.int .i64 s.mir)).set ⟨w.heap.size, 7, none⟩ (.complex .f32 s.gr.1 s.gr.2)).set ⟨w.heap.size, 8, none⟩ (.float .f32 s.loss)).set ⟨w.heap.size, 9, none⟩ (.slice B1 m d1)); replace cb := ((((cb.other ⟨w.heap.size, 6, none⟩ (.int .i64 s.mir) n01).other ⟨w.heap.size, 7, none⟩ (.complex .f32 s.gr.1 s.gr.2) n01).other ⟨w.heap.size, 8, none⟩ (.float .f32 s.loss) n01).other ⟨w.heap.size, 9, none⟩ (.slice B1 m d1) n01); replace fb := ((((fb.set ⟨w.heap.size, 6, none⟩ (.int .i64 s.mir)).set ⟨w.heap.size, 7, none⟩ (.complex .f32 s.gr.1 s.gr.2)).set ⟨w.heap.size, 8, none⟩ (.float .f32 s.loss)).set ⟨w.heap.size, 9, none⟩ (.slice B1 m d1)); replace oS := (own_setp (own_setp (own_setp (own_setp oS lW0 6 (.int .i64 s.mir)) lW0 7 (.complex .f32 s.gr.1 s.gr.2)) lW0 8 (.float .f32 s.loss)) lW0 9 (.slice B1 m d1)); replace oB := (own_setp (own_setp (own_setp (own_setp oB lW0 6 (.int .i64 s.mir)) lW0 7 (.complex .f32 s.gr.1 s.gr.2)) lW0 8 (.float .f32 s.loss)) lW0 9 (.slice B1 m d1)); replace hW := ((((hW.setCell (p := ⟨w.heap.size, 6, none⟩) l0 (.int .i64 s.mir)).setCell (p := ⟨w.heap.size, 7, none⟩) l0 (.complex .f32 s.gr.1 s.gr.2)).setCell (p := ⟨w.heap.size, 8, none⟩) l0 (.float .f32 s.loss)).setCell (p := ⟨w.heap.size, 9, none⟩) l0 (.slice B1 m d1)); obtain ⟨U2, hU2e⟩ : ∃ U2, U2 = ((((w2.setCell ⟨w.heap.size, 6, none⟩ (.int .i64 s.mir)).setCell ⟨w.heap.size, 7, none⟩ (.complex .f32 s.gr.1 s.gr.2)).setCell ⟨w.heap.size, 8, none⟩ (.float .f32 s.loss)).setCell ⟨w.heap.size, 9, none⟩ (.slice B1 m d1)) := ⟨_, rfl⟩; have zU2 : U2.heap.size = w2.heap.size := (by rw [hU2e]; simp); rw [← hU2e] at ca fa cb fb oS oB hW; rw [← hU2e]; clear hU2e; replace la := ca.lt; replace lb := cb.lt
  have a11 := ca 11 _ rfl
  go_wp2_with fail
  (with_reducible refine (KE.out _ (rL.step hW)).mono ?_)
  rintro e w3 ⟨L1, q1, rfl, oL, hb⟩
  have apSL := apart_base oS oL (Nat.le_refl _)
  have apBL := apart_base oB oL (Nat.le_refl _)
  replace oL := owns_mono oL (show W.heap.size ≤ U2.heap.size by omega)
  have z3 := hb.size
  clear a11
  replace ca := ca.keep hb; replace fa := fa.keep hb la; replace la := ca.lt; replace cb := cb.keep hb; replace fb := fb.keep hb lb; replace lb := cb.lt; replace oS := owns_below oS hb; replace oB := owns_below oB hb; replace hW := then_ hW hb
  clear hb rL KE
  have a11 := ca 11 _ rfl
  have f11 := fa 11
  go_upto_region 4 with fail
  clear a11 f11
  replace ca := (ca.put 11 (.slice L1 p q1)); replace fa := (fa.set ⟨w.heap.size, 11, none⟩ (.slice L1 p q1)); replace cb := (cb.other ⟨w.heap.size, 11, none⟩ (.slice L1 p q1) n01); replace fb := (fb.set ⟨w.heap.size, 11, none⟩ (.slice L1 p q1)); replace oS := (own_setp oS lW0 11 (.slice L1 p q1)); replace oB := (own_setp oB lW0 11 (.slice L1 p q1)); replace oL := (own_setp oL lW0 11 (.slice L1 p q1)); replace hW := (hW.setCell (p := ⟨w.heap.size, 11, none⟩) l0 (.slice L1 p q1)); obtain ⟨U3, hU3e⟩ : ∃ U3, U3 = (w3.setCell ⟨w.heap.size, 11, none⟩ (.slice L1 p q1)) := ⟨_, rfl⟩; have zU3 : U3.heap.size = w3.heap.size := (by rw [hU3e]; simp); rw [← hU3e] at ca fa cb fb oS oB oL hW; rw [← hU3e]; clear hU3e; replace la := ca.lt; replace lb := cb.lt
  have a0 := ca 0 _ rfl; have a1 := ca 1 _ rfl; have a2 := ca 2 _ rfl; have a3 := ca 3 _ rfl; have a4 := ca 4 _ rfl; have a5 := ca 5 _ rfl; have a6 := ca 6 _ rfl; have a7 := ca 7 _ rfl; have a8 := ca 8 _ rfl; have a9 := ca 9 _ rfl; have a10 := ca 10 _ rfl; have a11 := ca 11 _ rfl
  have b0 := cb 0 _ rfl; have b1 := cb 1 _ rfl; have b2 := cb 2 _ rfl; have b3 := cb 3 _ rfl; have b4 := cb 4 _ rfl; have b5 := cb 5 _ rfl; have b6 := cb 6 _ rfl; have b7 := cb 7 _ rfl; have b8 := cb 8 _ rfl; have b9 := cb 9 _ rfl; have b10 := cb 10 _ rfl; have b11 := cb 11 _ rfl
  have f0 := fb 0; have f1 := fb 1; have f2 := fb 2; have f3 := fb 3; have f4 := fb 4; have f5 := fb 5; have f6 := fb 6; have f7 := fb 7; have f8 := fb 8; have f9 := fb 9; have f10 := fb 10; have f11 := fb 11
  go_wp2
  clear b0 b1 b2 b3 b4 b5 b6 b7 b8 b9 b10 b11
  replace cb := ((((((((((((cb.put 0 (.int .i64 s.sz)).put 1 (.float .f32 s.st)).put 2 (.float .f32 s.li.1)).put 3 (.float .f32 s.li.2.1)).put 4 (.float .f32 s.li.2.2)).put 5 (.slice A1 n c1)).put 6 (.int .i64 s.mir)).put 7 (.complex .f32 s.gr.1 s.gr.2)).put 8 (.float .f32 s.loss)).put 9 (.slice B1 m d1)).put 10 (.int .i64 s.tk)).put 11 (.slice L1 p q1)); replace fb := ((((((((((((fb.set ⟨w.heap.size + 1, 0, none⟩ (.int .i64 s.sz)).set ⟨w.heap.size + 1, 1, none⟩ (.float .f32 s.st)).set ⟨w.heap.size + 1, 2, none⟩ (.float .f32 s.li.1)).set ⟨w.heap.size + 1, 3, none⟩ (.float .f32 s.li.2.1)).set ⟨w.heap.size + 1, 4, none⟩ (.float .f32 s.li.2.2)).set ⟨w.heap.size + 1, 5, none⟩ (.slice A1 n c1)).set ⟨w.heap.size + 1, 6, none⟩ (.int .i64 s.mir)).set ⟨w.heap.size + 1, 7, none⟩ (.complex .f32 s.gr.1 s.gr.2)).set ⟨w.heap.size + 1, 8, none⟩ (.float .f32 s.loss)).set ⟨w.heap.size + 1, 9, none⟩ (.slice B1 m d1)).set ⟨w.heap.size + 1, 10, none⟩ (.int .i64 s.tk)).set ⟨w.heap.size + 1, 11, none⟩ (.slice L1 p q1)); replace oS := (own_setp (own_setp (own_setp (own_setp (own_setp (own_setp (own_setp (own_setp (own_setp (own_setp (own_setp (own_setp oS lW1 0 (.int .i64 s.sz)) lW1 1 (.float .f32 s.st)) lW1 2 (.float .f32 s.li.1)) lW1 3 (.float .f32 s.li.2.1)) lW1 4 (.float .f32 s.li.2.2)) lW1 5 (.slice A1 n c1)) lW1 6 (.int .i64 s.mir)) lW1 7 (.complex .f32 s.gr.1 s.gr.2)) lW1 8 (.float .f32 s.loss)) lW1 9 (.slice B1 m d1)) lW1 10 (.int .i64 s.tk)) lW1 11 (.slice L1 p q1)); replace oB := (own_setp (own_setp (own_setp (own_setp (own_setp (own_setp (own_setp (own_setp (own_setp (own_setp (own_setp (own_setp oB lW1 0 (.int .i64 s.sz)) lW1 1 (.float .f32 s.st)) lW1 2 (.float .f32 s.li.1)) lW1 3 (.float .f32 s.li.2.1)) lW1 4 (.float .f32 s.li.2.2)) lW1 5 (.slice A1 n c1)) lW1 6 (.int .i64 s.mir)) lW1 7 (.complex .f32 s.gr.1 s.gr.2)) lW1 8 (.float .f32 s.loss)) lW1 9 (.slice B1 m d1)) lW1 10 (.int .i64 s.tk)) lW1 11 (.slice L1 p q1)); replace oL := (own_setp (own_setp (own_setp (own_setp (own_setp (own_setp (own_setp (own_setp (own_setp (own_setp (own_setp (own_setp oL lW1 0 (.int .i64 s.sz)) lW1 1 (.float .f32 s.st)) lW1 2 (.float .f32 s.li.1)) lW1 3 (.float .f32 s.li.2.1)) lW1 4 (.float .f32 s.li.2.2)) lW1 5 (.slice A1 n c1)) lW1 6 (.int .i64 s.mir)) lW1 7 (.complex .f32 s.gr.1 s.gr.2)) lW1 8 (.float .f32 s.loss)) lW1 9 (.slice B1 m d1)) lW1 10 (.int .i64 s.tk)) lW1 11 (.slice L1 p q1)); replace hW := ((((((((((((hW.setCell (p := ⟨w.heap.size + 1, 0, none⟩) l1 (.int .i64 s.sz)).setCell (p := ⟨w.heap.size + 1, 1, none⟩) l1 (.float .f32 s.st)).setCell (p := ⟨w.heap.size + 1, 2, none⟩) l1 (.float .f32 s.li.1)).setCell (p := ⟨w.heap.size + 1, 3, none⟩) l1 (.float .f32 s.li.2.1)).setCell (p := ⟨w.heap.size + 1, 4, none⟩) l1 (.float .f32 s.li.2.2)).setCell (p := ⟨w.heap.size + 1, 5, none⟩) l1 (.slice A1 n c1)).setCell (p := ⟨w.heap.size + 1, 6, none⟩) l1 (.int .i64 s.mir)).setCell (p := ⟨w.heap.size + 1, 7, none⟩) l1 (.complex .f32 s.gr.1 s.gr.2)).setCell (p := ⟨w.heap.size + 1, 8, none⟩) l1 (.float .f32 s.loss)).setCell (p := ⟨w.heap.size + 1, 9, none⟩) l1 (.slice B1 m d1)).setCell (p := ⟨w.heap.size + 1, 10, none⟩) l1 (.int .i64 s.tk)).setCell (p := ⟨w.heap.size + 1, 11, none⟩) l1 (.slice L1 p q1)); obtain ⟨F, hFe⟩ : ∃ F, F = ((((((((((((U3.setCell ⟨w.heap.size + 1, 0, none⟩ (.int .i64 s.sz)).setCell ⟨w.heap.size + 1, 1, none⟩ (.float .f32 s.st)).setCell ⟨w.heap.size + 1, 2, none⟩ (.float .f32 s.li.1)).setCell ⟨w.heap.size + 1, 3, none⟩ (.float .f32 s.li.2.1)).setCell ⟨w.heap.size + 1, 4, none⟩ (.float .f32 s.li.2.2)).setCell ⟨w.heap.size + 1, 5, none⟩ (.slice A1 n c1)).setCell ⟨w.heap.size + 1, 6, none⟩ (.int .i64 s.mir)).setCell ⟨w.heap.size + 1, 7, none⟩ (.complex .f32 s.gr.1 s.gr.2)).setCell ⟨w.heap.size + 1, 8, none⟩ (.float .f32 s.loss)).setCell ⟨w.heap.size + 1, 9, none⟩ (.slice B1 m d1)).setCell ⟨w.heap.size + 1, 10, none⟩ (.int .i64 s.tk)).setCell ⟨w.heap.size + 1, 11, none⟩ (.slice L1 p q1)) := ⟨_, rfl⟩; have zF : F.heap.size = U3.heap.size := (by rw [hFe]; simp); rw [← hFe] at cb fb oS oB oL hW; rw [← hFe]; clear hFe; replace lb := cb.lt
  have b0 := cb 0 _ rfl; have b1 := cb 1 _ rfl; have b2 := cb 2 _ rfl; have b3 := cb 3 _ rfl; have b4 := cb 4 _ rfl; have b5 := cb 5 _ rfl; have b6 := cb 6 _ rfl; have b7 := cb 7 _ rfl; have b8 := cb 8 _ rfl; have b9 := cb 9 _ rfl; have b10 := cb 10 _ rfl; have b11 := cb 11 _ rfl
  refine bodyPost_ret (v := .agg #[.int .i64 s.sz, .float .f32 s.st, .float .f32 s.li.1, .float .f32 s.li.2.1, .float .f32 s.li.2.2, .slice A1 n c1, .int .i64 s.mir, .complex .f32 s.gr.1 s.gr.2, .float .f32 s.loss, .slice B1 m d1, .int .i64 s.tk, .slice L1 p q1]) (by simp [results, Tryz.results32, go_sem, b0, b1, b2, b3, b4, b5, b6, b7, b8, b9, b10, b11]) rfl ⟨⟨A1, B1, L1, c1, d1, q1, rfl, owns_mono oS (by omega), owns_mono oB (by omega), owns_mono oL (by omega), apSB, apSL, apBL⟩, hW⟩
end Go.Proofs.YthlphmojldbpkaaGreat

/- A show that is changed in place: its box, its rows. -/
namespace Go.Proofs.YthlphmojldbpkaaGreat
open Go.RowKit

def shwL (s : Shw) (A B L : Option Addr) (n c m d p q : Nat) : List Value := [.int .i64 s.sz, .float .f32 s.st, .float .f32 s.li.1, .float .f32 s.li.2.1, .float .f32 s.li.2.2, .slice A n c, .int .i64 s.mir, .complex .f32 s.gr.1 s.gr.2, .float .f32 s.loss, .slice B m d, .int .i64 s.tk, .slice L p q]
def shw0 : List Value := [.int .i64 0, .float .f32 0, .float .f32 0, .float .f32 0, .float .f32 0, .slice none 0 0, .int .i64 0, .complex .f32 0 0, .float .f32 0, .slice none 0 0, .int .i64 0, .slice none 0 0]
def OffA (A : Option Addr) (n c x : Nat) : Prop := ∀ b, x ≤ b → b ≤ x + 2 → Off (.slice A n c) b
/-- a block of one of a show's rows -/
def OwnB (s : Shw) (A B L : Option Addr) (c d q : Nat) (b : Nat) : Prop := (Value.slice A s.sh.length c).ownBlock = some b ∨ (Value.slice B s.bs.length d).ownBlock = some b ∨ (Value.slice L s.log.length q).ownBlock = some b
/-- below base nothing is changed; nothing older but the blocks O -/
structure BelF (base : Nat) (O : Nat → Prop) (w w' : World) : Prop where
  bel : Below base w w'
  far : ∀ b, b < w.heap.size → ¬ O b → w'.heap[b]? = w.heap[b]?
/-- a row's block is one of O, or not older than x -/
def InO (O : Nat → Prop) (x : Nat) (v : Value) : Prop := ∀ g, v.ownBlock = some g → O g ∨ x ≤ g
/-- a show is being changed: its box x holds l, the event's box stands behind it, then the answer's -/
structure HS (W0 : World) (O : Nat → Prop) (base x : Nat) (e : Ev) (l o : List Value) (s : Shw) (A B L : Option Addr) (c d q : Nat) (W : World) : Prop where
  cx : CA W x l
  fx : FA W x
  cy : CA W (x + 1) (evC e)
  co : CA W (x + 2) o
  fo : FA W (x + 2)
  own : OwnS W base s A B L c d q
  oA : OffA A s.sh.length c x
  oB : OffA B s.bs.length d x
  oL : OffA L s.log.length q x
  bx : base ≤ x
  lt : x + 2 < W.heap.size
  x0 : W0.heap.size ≤ x
  iA : InO O x (.slice A s.sh.length c)
  iB : InO O x (.slice B s.bs.length d)
  iL : InO O x (.slice L s.log.length q)
  bel : BelF base O W0 W

theorem BelF.step {base : Nat} {O : Nat → Prop} {w w' w2 : World} (h : BelF base O w w') (hb : Below base w' w2) (hf : ∀ b, b < w.heap.size → ¬ O b → w2.heap[b]? = w'.heap[b]?) : BelF base O w w2 :=
  ⟨h.bel.trans hb, fun b h1 h2 => (hf b h1 h2).trans (h.far b h1 h2)⟩
theorem BelF.setCell {base : Nat} {O : Nat → Prop} {w w' : World} (h : BelF base O w w') {p : Addr} (hp : base ≤ p.block) (hx : w.heap.size ≤ p.block) (u : Value) : BelF base O w (w'.setCell p u) :=
  ⟨h.bel.setCell hp u, fun b h1 h2 => (Below.heap_setCell w' p u b (by omega)).trans (h.far b h1 h2)⟩
theorem BelF.grown {base x : Nat} {O : Nat → Prop} {w w1 w2 : World} {v : Value} (h : BelF base O w w1) (hg : w1.grownBy w2 v.ownBlock) (hB : base ≤ w1.heap.size) (hr : ∀ k, v.ownBlock = some k → base ≤ k) (hx : w.heap.size ≤ x) (hi : InO O x v) : BelF base O w w2 :=
  ⟨h.bel.grown hg hB hr, fun b h1 h2 => (hg.block b (Nat.lt_of_lt_of_le h1 h.bel.size) (fun e => by
    rcases hi b e.symm with k | k
    · exact h2 k
    · omega)).trans (h.far b h1 h2)⟩
theorem InO.new {O : Nat → Prop} {x sz : Nat} {v v' : Value} (h : InO O x v) (hat : v'.ownBlock = v.ownBlock ∨ v'.ownBlock = some sz) (hx : x ≤ sz) : InO O x v' := fun g e => by
  rcases hat with k | k
  · exact h g (by rw [← k, e])
  · rw [k] at e; injection e with e; right; omega

theorem hs_new {w : World} {base : Nat} (e : Ev) {s : Shw} {A B L : Option Addr} {c d q : Nat} (hb : base ≤ w.heap.size) (own : OwnS w base s A B L c d q) (l o : Array Value) (t1 t2 t3 : TypeId) (hl : l.toList = shwL s A B L s.sh.length c s.bs.length d s.log.length q) (ho : o.toList = shw0) (ey : Array Value) (hy : ey.toList = evC e) :
    HS w (OwnB s A B L c d q) base w.heap.size e (shwL s A B L s.sh.length c s.bs.length d s.log.length q) shw0 s A B L c d q (((w.alloc (Obj.cells l t1)).alloc (Obj.cells ey t2)).alloc (Obj.cells o t3)) := by
  have z1 : (w.alloc (Obj.cells l t1)).heap.size = w.heap.size + 1 := by simp
  have z2 : ((w.alloc (Obj.cells l t1)).alloc (Obj.cells ey t2)).heap.size = w.heap.size + 2 := by simp
  have hB : Below w.heap.size w (((w.alloc (Obj.cells l t1)).alloc (Obj.cells ey t2)).alloc (Obj.cells o t3)) := by (repeat (first | with_reducible assumption | exact Below.refl _ _ | (refine Below.setCell ?_ (by first | exact Nat.le_refl _ | (simp; done) | omega | (simp; omega)) _) | (refine below_drewN ?_ _) | (refine Below.drew ?_) | (refine Below.alloc ?_ (by first | exact Nat.le_refl _ | (simp; done) | omega | (simp; omega)) _) | (refine then_ ?_ (by with_reducible assumption)) | assumption | (refine then_ ?_ (by assumption))))
  refine ⟨?_, ?_, ?_, ?_, ?_, own.below hB, fun b h1 _ => off_ge own.1 h1, fun b h1 _ => off_ge own.2.1 h1, fun b h1 _ => off_ge own.2.2.1 h1, hb, by simp, Nat.le_refl _, fun g e => .inl (.inl e), fun g e => .inl (.inr (.inl e)), fun g e => .inl (.inr (.inr e)), ⟨hB.mono hb, fun b h1 _ => hB.block b h1⟩⟩
  · rw [← hl]; exact ((CA.new w l t1).alloc _).alloc _
  · exact ((FA.new w l t1).alloc (by simp) _).alloc (by simp; omega) _
  · rw [← hy, ← z1]; exact (CA.new _ ey t2).alloc _
  · rw [← ho, ← z2]; exact CA.new _ o t3
  · rw [← z2]; exact FA.new _ o t3

section
variable {W0 : World} {O : Nat → Prop} {base x : Nat} {e : Ev} {l o : List Value} {s : Shw} {A B L : Option Addr} {c d q : Nat} {W W' : World}
theorem HS.below_ (h : HS W0 O base x e l o s A B L c d q W) (hb : Below W.heap.size W W') : HS W0 O base x e l o s A B L c d q W' :=
  ⟨h.cx.keep hb, h.fx.keep hb (by have := h.lt; omega), h.cy.keep hb, h.co.keep hb, h.fo.keep hb h.lt, h.own.below hb, h.oA, h.oB, h.oL, h.bx, Nat.lt_of_lt_of_le h.lt hb.size, h.x0, h.iA, h.iB, h.iL, h.bel.step (hb.mono (Nat.le_of_lt (by have := h.bx; have := h.lt; omega))) (fun b h1 _ => hb.block b (by have := h.x0; have := h.lt; omega))⟩
theorem HS.alloc_ (h : HS W0 O base x e l o s A B L c d q W) (ob : Obj) : HS W0 O base x e l o s A B L c d q (W.alloc ob) := h.below_ (by (repeat (first | with_reducible assumption | exact Below.refl _ _ | (refine Below.setCell ?_ (by first | exact Nat.le_refl _ | (simp; done) | omega | (simp; omega)) _) | (refine below_drewN ?_ _) | (refine Below.drew ?_) | (refine Below.alloc ?_ (by first | exact Nat.le_refl _ | (simp; done) | omega | (simp; omega)) _) | (refine then_ ?_ (by with_reducible assumption)) | assumption | (refine then_ ?_ (by assumption)))))
theorem HS.drew_ (h : HS W0 O base x e l o s A B L c d q W) (k : Nat) : HS W0 O base x e l o s A B L c d q (W.drewN k) := h.below_ (by (repeat (first | with_reducible assumption | exact Below.refl _ _ | (refine Below.setCell ?_ (by first | exact Nat.le_refl _ | (simp; done) | omega | (simp; omega)) _) | (refine below_drewN ?_ _) | (refine Below.drew ?_) | (refine Below.alloc ?_ (by first | exact Nat.le_refl _ | (simp; done) | omega | (simp; omega)) _) | (refine then_ ?_ (by with_reducible assumption)) | assumption | (refine then_ ?_ (by assumption)))))
/-- a cell of the show's box is set -/
theorem HS.put (h : HS W0 O base x e l o s A B L c d q W) (i : Nat) (u : Value) : HS W0 O base x e (l.set i u) o s A B L c d q (W.setCell ⟨x, i, none⟩ u) :=
  have off : ∀ {E : TypeId} {sz : Nat} {v : Value} {n : Nat} {xs : List Value}, W.ownsRow base E sz v n xs → Off v x → (W.setCell ⟨x, i, none⟩ u).ownsRow base E sz v n xs := fun ho hf => own_set ho hf i u
  ⟨h.cx.put i u, h.fx.set _ _, h.cy.other ⟨x, i, none⟩ u (by show ¬ x + 1 = x; omega), h.co.other ⟨x, i, none⟩ u (by show ¬ x + 2 = x; omega), h.fo.set _ _,
    ⟨off h.own.1 (h.oA x (Nat.le_refl _) (by omega)), off h.own.2.1 (h.oB x (Nat.le_refl _) (by omega)), off h.own.2.2.1 (h.oL x (Nat.le_refl _) (by omega)), h.own.2.2.2⟩, h.oA, h.oB, h.oL, h.bx, by have := h.lt; simp [World.setCell]; omega, h.x0, h.iA, h.iB, h.iL, h.bel.setCell (p := ⟨x, i, none⟩) h.bx h.x0 u⟩
/-- a cell of the answer's box is set -/
theorem HS.puto (h : HS W0 O base x e l o s A B L c d q W) (i : Nat) (u : Value) : HS W0 O base x e l (o.set i u) s A B L c d q (W.setCell ⟨x + 2, i, none⟩ u) :=
  have off : ∀ {E : TypeId} {sz : Nat} {v : Value} {n : Nat} {xs : List Value}, W.ownsRow base E sz v n xs → Off v (x + 2) → (W.setCell ⟨x + 2, i, none⟩ u).ownsRow base E sz v n xs := fun ho hf => own_set ho hf i u
  ⟨h.cx.other ⟨x + 2, i, none⟩ u (by show ¬ x = x + 2; omega), h.fx.set _ _, h.cy.other ⟨x + 2, i, none⟩ u (by show ¬ x + 1 = x + 2; omega), h.co.put i u, h.fo.set _ _,
    ⟨off h.own.1 (h.oA _ (by omega) (Nat.le_refl _)), off h.own.2.1 (h.oB _ (by omega) (Nat.le_refl _)), off h.own.2.2.1 (h.oL _ (by omega) (Nat.le_refl _)), h.own.2.2.2⟩, h.oA, h.oB, h.oL, h.bx, by have := h.lt; simp [World.setCell]; omega, h.x0, h.iA, h.iB, h.iL, h.bel.setCell (p := ⟨x + 2, i, none⟩) (by have := h.bx; show base ≤ x + 2; omega) (by have := h.x0; show W0.heap.size ≤ x + 2; omega) u⟩
/-- its rows are another show's as well -/
theorem HS.as (h : HS W0 O base x e l o s A B L c d q W) (t : Shw) (h1 : t.sh = s.sh) (h2 : t.bs = s.bs) (h3 : t.log = s.log) : HS W0 O base x e l o t A B L c d q W := by
  obtain ⟨a, b, c', d', e', f, g, i, j, k, m, x0, p, q', r, n⟩ := h
  refine ⟨a, b, c', d', e', ?_, ?_, ?_, ?_, k, m, x0, ?_, ?_, ?_, n⟩
  · unfold OwnS at *; rw [h1, h2, h3]; exact f
  · rw [h1]; exact g
  · rw [h2]; exact i
  · rw [h3]; exact j
  · rw [h1]; exact p
  · rw [h2]; exact q'
  · rw [h3]; exact r
/-- what a row that has grown in place, or has moved to a new block, stays apart from -/
theorem off_new {v v' : Value} {g sz : Nat} (hat : v'.ownBlock = v.ownBlock ∨ v'.ownBlock = some sz) (h : Off v g) (hg : g < sz) : Off v' g := by
  intro e
  rcases hat with k | k
  · exact h (by rw [← k, e])
  · rw [k] at e; injection e with e; omega
theorem apart_new {v v' u : Value} {sz : Nat} (hat : v'.ownBlock = v.ownBlock ∨ v'.ownBlock = some sz) (h : Apart v u) (hu : ∀ g, u.ownBlock = some g → g < sz) : Apart v' u := by
  intro g e hg
  rcases hat with k | k
  · exact h g (by rw [← k, e]) hg
  · rw [k] at e; injection e with e; have := hu g hg; omega
theorem Apart.symm {v u : Value} (h : Apart v u) : Apart u v := fun g e k => h g k e
/-- the row of shards has grown -/
theorem HS.growA (h : HS W0 O base x e l o s A B L c d q W) {sh : List Sh} {A' : Option Addr} {c' : Nat} (hg : W.grownBy W' (Value.slice A s.sh.length c).ownBlock) (own : W'.ownsRow base 36 7 (.slice A' sh.length c') sh.length (flat shC sh))
    (hat : (Value.slice A' sh.length c').ownBlock = (Value.slice A s.sh.length c).ownBlock ∨ (Value.slice A' sh.length c').ownBlock = some W.heap.size) : HS W0 O base x e l o { s with sh := sh } A' B L c' d q W' := by
  have nx : ∀ b, x ≤ b → b ≤ x + 2 → ∀ k, (Value.slice A s.sh.length c).ownBlock = some k → b ≠ k := fun b h1 h2 k hk e => h.oA b h1 h2 (by rw [hk, e])
  have lt := h.lt
  refine ⟨h.cx.grown hg (nx _ (by omega) (by omega)), h.fx.grown (by omega) hg (nx _ (by omega) (by omega)), h.cy.grown hg (nx _ (by omega) (by omega)), h.co.grown hg (nx _ (by omega) (by omega)), h.fo.grown lt hg (nx _ (by omega) (by omega)), ⟨own, owns_grown h.own.2.1 hg ?_, owns_grown h.own.2.2.1 hg ?_, apart_new hat h.own.2.2.2.1 (fun g e => (h.own.2.1.lt g e).2), apart_new hat h.own.2.2.2.2.1 (fun g e => (h.own.2.2.1.lt g e).2), h.own.2.2.2.2.2⟩,
    fun b h1 h2 => off_new hat (h.oA b h1 h2) (by omega), h.oB, h.oL, h.bx, Nat.lt_of_lt_of_le lt hg.size, h.x0, h.iA.new hat (by omega), h.iB, h.iL, h.bel.grown hg (by have := h.bx; omega) (fun k hk => (h.own.1.lt k hk).1) h.x0 h.iA⟩
  · exact fun g hg => h.own.2.2.2.1 g hg
  · exact fun g hg => h.own.2.2.2.2.1 g hg
/-- the row of beads has grown -/
theorem HS.growB (h : HS W0 O base x e l o s A B L c d q W) {bs : List Bd} {B' : Option Addr} {d' : Nat} (hg : W.grownBy W' (Value.slice B s.bs.length d).ownBlock) (own : W'.ownsRow base 54 2 (.slice B' bs.length d') bs.length (flat bdC bs))
    (hat : (Value.slice B' bs.length d').ownBlock = (Value.slice B s.bs.length d).ownBlock ∨ (Value.slice B' bs.length d').ownBlock = some W.heap.size) : HS W0 O base x e l o { s with bs := bs } A B' L c d' q W' := by
  have nx : ∀ b, x ≤ b → b ≤ x + 2 → ∀ k, (Value.slice B s.bs.length d).ownBlock = some k → b ≠ k := fun b h1 h2 k hk e => h.oB b h1 h2 (by rw [hk, e])
  have lt := h.lt
  refine ⟨h.cx.grown hg (nx _ (by omega) (by omega)), h.fx.grown (by omega) hg (nx _ (by omega) (by omega)), h.cy.grown hg (nx _ (by omega) (by omega)), h.co.grown hg (nx _ (by omega) (by omega)), h.fo.grown lt hg (nx _ (by omega) (by omega)), ⟨owns_grown h.own.1 hg ?_, own, owns_grown h.own.2.2.1 hg ?_, (apart_new hat h.own.2.2.2.1.symm (fun g e => (h.own.1.lt g e).2)).symm, h.own.2.2.2.2.1, apart_new hat h.own.2.2.2.2.2 (fun g e => (h.own.2.2.1.lt g e).2)⟩,
    h.oA, fun b h1 h2 => off_new hat (h.oB b h1 h2) (by omega), h.oL, h.bx, Nat.lt_of_lt_of_le lt hg.size, h.x0, h.iA, h.iB.new hat (by omega), h.iL, h.bel.grown hg (by have := h.bx; omega) (fun k hk => (h.own.2.1.lt k hk).1) h.x0 h.iB⟩
  · exact fun g hg => h.own.2.2.2.1.symm g hg
  · exact fun g hg => h.own.2.2.2.2.2 g hg
/-- the log has grown -/
theorem HS.growL (h : HS W0 O base x e l o s A B L c d q W) {log : List Ev} {L' : Option Addr} {q' : Nat} (hg : W.grownBy W' (Value.slice L s.log.length q).ownBlock) (own : W'.ownsRow base 38 13 (.slice L' log.length q') log.length (flat evC log))
    (hat : (Value.slice L' log.length q').ownBlock = (Value.slice L s.log.length q).ownBlock ∨ (Value.slice L' log.length q').ownBlock = some W.heap.size) : HS W0 O base x e l o { s with log := log } A B L' c d q' W' := by
  have nx : ∀ b, x ≤ b → b ≤ x + 2 → ∀ k, (Value.slice L s.log.length q).ownBlock = some k → b ≠ k := fun b h1 h2 k hk e => h.oL b h1 h2 (by rw [hk, e])
  have lt := h.lt
  refine ⟨h.cx.grown hg (nx _ (by omega) (by omega)), h.fx.grown (by omega) hg (nx _ (by omega) (by omega)), h.cy.grown hg (nx _ (by omega) (by omega)), h.co.grown hg (nx _ (by omega) (by omega)), h.fo.grown lt hg (nx _ (by omega) (by omega)), ⟨owns_grown h.own.1 hg ?_, owns_grown h.own.2.1 hg ?_, own, h.own.2.2.2.1, (apart_new hat h.own.2.2.2.2.1.symm (fun g e => (h.own.1.lt g e).2)).symm, (apart_new hat h.own.2.2.2.2.2.symm (fun g e => (h.own.2.1.lt g e).2)).symm⟩,
    h.oA, h.oB, fun b h1 h2 => off_new hat (h.oL b h1 h2) (by omega), h.bx, Nat.lt_of_lt_of_le lt hg.size, h.x0, h.iA, h.iB, h.iL.new hat (by omega), h.bel.grown hg (by have := h.bx; omega) (fun k hk => (h.own.2.2.1.lt k hk).1) h.x0 h.iL⟩
  · exact fun g hg => h.own.2.2.2.2.1.symm g hg
  · exact fun g hg => h.own.2.2.2.2.2.symm g hg
/-- a bead is set in place -/
theorem HS.setB2 {g : Nat} (h : HS W0 O base x e l o s A (some ⟨g, 0, none⟩) L c d q W) {i : Nat} (hi : i < s.bs.length) (a v : Pt) :
    HS W0 O base x e l o { s with bs := s.bs.set i (a, v) } A (some ⟨g, 0, none⟩) L c d q ((W.setCell ⟨g, i * 2, none⟩ (.complex .f32 a.1 a.2)).setCell ⟨g, i * 2 + 1, none⟩ (.complex .f32 v.1 v.2)) := by
  have ho := ((h.own.2.1.stored (i * 2) (.complex .f32 a.1 a.2)).1.stored (i * 2 + 1) (.complex .f32 v.1 v.2)).1
  rw [← flat_setBd hi] at ho
  have e1 : (s.bs.set i (a, v)).length = s.bs.length := by simp
  rw [← e1] at ho
  exact h.growB (grown_set (grown_set (World.grownBy.refl _ _) _ _) _ _) ho (.inl rfl)
/-- a bead's speed is set in place -/
theorem HS.setV {g : Nat} (h : HS W0 O base x e l o s A (some ⟨g, 0, none⟩) L c d q W) {i : Nat} {a v : Pt} (hx : s.bs[i]? = some (a, v)) (y : Pt) :
    HS W0 O base x e l o { s with bs := s.bs.set i (a, y) } A (some ⟨g, 0, none⟩) L c d q (W.setCell ⟨g, i * 2 + 1, none⟩ (.complex .f32 y.1 y.2)) := by
  have hi := (List.getElem?_eq_some_iff.1 hx).1
  have ho := (h.own.2.1.stored (i * 2 + 1) (.complex .f32 y.1 y.2)).1
  have e0 : (flat bdC s.bs).set (i * 2 + 1) (.complex .f32 y.1 y.2) = flat bdC (s.bs.set i (a, y)) := by
    rw [flat_setBd hi]
    congr 1
    have := flat_get bdC_len s.bs i (a, v) hx 0 _ rfl
    rw [Nat.add_zero] at this
    exact (set_same this).symm
  rw [e0] at ho
  have e1 : (s.bs.set i (a, y)).length = s.bs.length := by simp
  rw [← e1] at ho
  exact h.growB (grown_set (World.grownBy.refl _ _) _ _) ho (.inl rfl)
/-- the beads lie in a new row -/
theorem HS.newB (h : HS W0 O base x e l o s A B L c d q W) (hb : Below W.heap.size W W') {bs : List Bd} {B' : Option Addr} {n d' : Nat} (own : W'.ownsRow W.heap.size 54 2 (.slice B' n d') n (flat bdC bs)) (hn : n = bs.length) :
    HS W0 O base x e l o { s with bs := bs } A B' L c d' q W' := by
  subst hn
  have lt := h.lt
  have k := h.below_ hb
  have bx := h.bx
  have nA : Apart (.slice A s.sh.length c) (.slice B' bs.length d') := fun g e e' => by have := (h.own.1.lt g e).2; have := (own.lt g e').1; omega
  have nL : Apart (.slice B' bs.length d') (.slice L s.log.length q) := fun g e e' => by have := (h.own.2.2.1.lt g e').2; have := (own.lt g e).1; omega
  exact ⟨k.cx, k.fx, k.cy, k.co, k.fo, ⟨k.own.1, owns_mono own (by omega), k.own.2.2.1, nA, k.own.2.2.2.2.1, nL⟩, k.oA, fun b h1 h2 e => by have := (own.lt b e).1; omega, k.oL, k.bx, k.lt, k.x0, k.iA, fun g e => .inr (by have := (own.lt g e).1; omega), k.iL, k.bel⟩
theorem HS.delA {g i : Nat} (h : HS W0 O base x e l o s (some ⟨g, 0, none⟩) B L c d q W) (hi : i < s.sh.length) (own : W'.ownsRow base 36 7 (.slice (some ⟨g, 0, none⟩) (s.sh.length - 1) c) (s.sh.length - 1) (flat shC (s.sh.eraseIdx i))) (hg : W.grownBy W' (some g)) :
    HS W0 O base x e l o { s with sh := s.sh.eraseIdx i } (some ⟨g, 0, none⟩) B L c d q W' := by
  rw [← List.length_eraseIdx_of_lt hi] at own
  exact h.growA hg own (.inl rfl)
theorem HS.delB {g i : Nat} (h : HS W0 O base x e l o s A (some ⟨g, 0, none⟩) L c d q W) (hi : i < s.bs.length) (own : W'.ownsRow base 54 2 (.slice (some ⟨g, 0, none⟩) (s.bs.length - 1) d) (s.bs.length - 1) (flat bdC (s.bs.eraseIdx i))) (hg : W.grownBy W' (some g)) :
    HS W0 O base x e l o { s with bs := s.bs.eraseIdx i } A (some ⟨g, 0, none⟩) L c d q W' := by
  rw [← List.length_eraseIdx_of_lt hi] at own
  exact h.growB hg own (.inl rfl)
theorem HS.appL (h : HS W0 O base x e l o s A B L c d q W) (ob : Obj) (e' : Ev) {v1 : Value} (hown : W'.ownsRow base 38 13 v1 (s.log.length + 1) (flat evC s.log ++ evC e')) (hg : (W.alloc ob).grownBy W' (Value.slice L s.log.length q).ownBlock)
    (hat : v1.ownBlock = (Value.slice L s.log.length q).ownBlock ∨ v1.ownBlock = some (W.alloc ob).heap.size) : ∃ L1 q1, v1 = .slice L1 (s.log.length + 1) q1 ∧ HS W0 O base x e l o { s with log := s.log ++ [e'] } A B L1 c d q1 W' := by
  obtain ⟨L1, q1, rfl⟩ := owns_slice hown
  have e1 : (s.log ++ [e']).length = s.log.length + 1 := by simp
  have e2 : flat evC s.log ++ evC e' = flat evC (s.log ++ [e']) := by rw [flat_append, flat_cons, flat_nil, List.append_nil]
  rw [e2, ← e1] at hown
  rw [← e1] at hat
  exact ⟨L1, q1, rfl, (h.alloc_ ob).growL hg hown hat⟩
theorem HS.appA (h : HS W0 O base x e l o s A B L c d q W) (ob : Obj) (y : Sh) {v1 : Value} (hown : W'.ownsRow base 36 7 v1 (s.sh.length + 1) (flat shC s.sh ++ shC y)) (hg : (W.alloc ob).grownBy W' (Value.slice A s.sh.length c).ownBlock)
    (hat : v1.ownBlock = (Value.slice A s.sh.length c).ownBlock ∨ v1.ownBlock = some (W.alloc ob).heap.size) : ∃ A1 c1, v1 = .slice A1 (s.sh.length + 1) c1 ∧ HS W0 O base x e l o { s with sh := s.sh ++ [y] } A1 B L c1 d q W' := by
  obtain ⟨A1, c1, rfl⟩ := owns_slice hown
  have e1 : (s.sh ++ [y]).length = s.sh.length + 1 := by simp
  have e2 : flat shC s.sh ++ shC y = flat shC (s.sh ++ [y]) := by rw [flat_append, flat_cons, flat_nil, List.append_nil]
  rw [e2, ← e1] at hown
  rw [← e1] at hat
  exact ⟨A1, c1, rfl, (h.alloc_ ob).growA hg hown hat⟩
theorem HS.appB (h : HS W0 O base x e l o s A B L c d q W) (ob : Obj) (y : Bd) {v1 : Value} (hown : W'.ownsRow base 54 2 v1 (s.bs.length + 1) (flat bdC s.bs ++ bdC y)) (hg : (W.alloc ob).grownBy W' (Value.slice B s.bs.length d).ownBlock)
    (hat : v1.ownBlock = (Value.slice B s.bs.length d).ownBlock ∨ v1.ownBlock = some (W.alloc ob).heap.size) : ∃ B1 d1, v1 = .slice B1 (s.bs.length + 1) d1 ∧ HS W0 O base x e l o { s with bs := s.bs ++ [y] } A B1 L c d1 q W' := by
  obtain ⟨B1, d1, rfl⟩ := owns_slice hown
  have e1 : (s.bs ++ [y]).length = s.bs.length + 1 := by simp
  have e2 : flat bdC s.bs ++ bdC y = flat bdC (s.bs ++ [y]) := by rw [flat_append, flat_cons, flat_nil, List.append_nil]
  rw [e2, ← e1] at hown
  rw [← e1] at hat
  exact ⟨B1, d1, rfl, (h.alloc_ ob).growB hg hown hat⟩
end

theorem waitS_succ {s u : Shw} {k : Nat} (h : waitS s k = some u) (hg : allGo u.gr u.bs = true) : waitS s (k + 1) = some (tickS u) := by
  show (match waitS s k with | some t => if allGo t.gr t.bs then some (tickS t) else none | none => none) = _
  rw [h]
  dsimp only
  rw [if_pos hg]
theorem waitS_stop {s u : Shw} {k : Nat} (h : waitS s k = some u) (hg : allGo u.gr u.bs = false) : ∀ j, waitS s (k + 1 + j) = none
  | 0 => by
    show (match waitS s k with | some t => if allGo t.gr t.bs then some (tickS t) else none | none => none) = _
    rw [h]
    dsimp only
    rw [hg]
    rfl
  | j + 1 => by
    show (match waitS s (k + 1 + j) with | some t => if allGo t.gr t.bs then some (tickS t) else none | none => none) = _
    rw [waitS_stop h hg j]
theorem waitS_no {s u : Shw} {k i : Nat} (h : waitS s k = some u) (hg : allGo u.gr u.bs = false) (hi : k < i) : waitS s i = none := by
  obtain ⟨j, rfl⟩ : ∃ j, i = k + 1 + j := ⟨i - (k + 1), by omega⟩
  exact waitS_stop h hg j
/-- its rows are old ones, or not older than x -/
def InS (O : Nat → Prop) (x : Nat) (s : Shw) (A B L : Option Addr) (c d q : Nat) : Prop := InO O x (.slice A s.sh.length c) ∧ InO O x (.slice B s.bs.length d) ∧ InO O x (.slice L s.log.length q)
/-- what happen answers, and what it leaves -/
def HapI (s : Shw) (e : Ev) (base : Nat) (O : Nat → Prop) (x : Nat) (r : Ending) (w' : World) : Prop :=
  (∀ t, hap s e = some t → ∃ A B L c d q, r = .returned (.tuple #[.agg #[.int .i64 (logged t e).sz, .float .f32 (logged t e).st, .float .f32 (logged t e).li.1, .float .f32 (logged t e).li.2.1, .float .f32 (logged t e).li.2.2, .slice A (logged t e).sh.length c, .int .i64 (logged t e).mir, .complex .f32 (logged t e).gr.1 (logged t e).gr.2, .float .f32 (logged t e).loss, .slice B (logged t e).bs.length d, .int .i64 (logged t e).tk, .slice L (logged t e).log.length q], .bool true]) ∧ OwnS w' base (logged t e) A B L c d q ∧ InS O x (logged t e) A B L c d q) ∧
  (hap s e = none → ∃ (s' : Shw) (A B L : Option Addr) (n c m d p q : Nat), r = .returned (.tuple #[.agg #[.int .i64 s'.sz, .float .f32 s'.st, .float .f32 s'.li.1, .float .f32 s'.li.2.1, .float .f32 s'.li.2.2, .slice A n c, .int .i64 s'.mir, .complex .f32 s'.gr.1 s'.gr.2, .float .f32 s'.loss, .slice B m d, .int .i64 s'.tk, .slice L p q], .bool false]))
theorem hapI_yes {s t : Shw} {e : Ev} {base x : Nat} {O : Nat → Prop} {v : Value} {w' : World} (ht : hap s e = some t) {A B L : Option Addr} {c d q : Nat} (own : OwnS w' base (logged t e) A B L c d q) (hin : InS O x (logged t e) A B L c d q)
    (hv : v = .tuple #[.agg #[.int .i64 t.sz, .float .f32 t.st, .float .f32 t.li.1, .float .f32 t.li.2.1, .float .f32 t.li.2.2, .slice A t.sh.length c, .int .i64 t.mir, .complex .f32 t.gr.1 t.gr.2, .float .f32 t.loss, .slice B t.bs.length d, .int .i64 t.tk, .slice L (t.log.length + 1) q], .bool true]) : HapI s e base O x (.returned v) w' := by
  refine ⟨fun t' ht' => ?_, fun hn => ?_⟩
  · rw [ht] at ht'
    injection ht' with ht'
    subst ht'
    refine ⟨A, B, L, c, d, q, ?_, own, hin⟩
    rw [hv]
    simp [logged]
  · rw [ht] at hn
    cases hn
theorem hapI_no {s s' : Shw} {e : Ev} {base x : Nat} {O : Nat → Prop} {v : Value} {w' : World} (ht : hap s e = none) {A B L : Option Addr} {n c m d p q : Nat} (hv : v = .tuple #[.agg #[.int .i64 s'.sz, .float .f32 s'.st, .float .f32 s'.li.1, .float .f32 s'.li.2.1, .float .f32 s'.li.2.2, .slice A n c, .int .i64 s'.mir, .complex .f32 s'.gr.1 s'.gr.2, .float .f32 s'.loss, .slice B m d, .int .i64 s'.tk, .slice L p q], .bool false]) : HapI s e base O x (.returned v) w' := by
  refine ⟨fun t' ht' => ?_, fun _ => ⟨s', A, B, L, n, c, m, d, p, q, by rw [hv]⟩⟩
  rw [ht] at ht'
  cases ht'
end Go.Proofs.YthlphmojldbpkaaGreat
