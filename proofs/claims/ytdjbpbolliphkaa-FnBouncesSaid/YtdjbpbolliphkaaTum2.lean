
/- Clone of beads, cloneTumble: the program's. -/
import Derived.Test.YtdjbpbolliphkaaTum
namespace Go.Proofs.Ytdjbpbolliphkaa
open Go.RowKit
attribute [local go_sem] run_store_float run_store_complex

/-- a read row's cells, one by one -/
theorem Rd.cells {α : Type} {enc : α → List Value} {sz : Nat} (he : ∀ x, (enc x).length = sz) (hsz : 0 < sz) {w : World} {B : Nat} {ad : Addr} {n : Nat} {xs : List α} (h : Rd enc sz w B (some ad) n xs) :
    ∀ j u, (flat enc xs)[j]? = some u → w.cell? (ad.add j) = some u := by
  intro j u hu
  have hj : j < xs.length * sz := by
    have := (List.getElem?_eq_some_iff.1 hu).1
    rwa [flat_length he] at this
  have hn : 0 < n := by
    have := h.1
    rcases Nat.eq_zero_or_pos n with h0 | h0
    · rw [h0] at this; rw [this, Nat.zero_mul] at hj; omega
    · exact h0
  obtain ⟨b, off, e, hb, hc⟩ := h.2 hn
  injection e with e
  subst e
  have hk : j / sz < xs.length := Nat.div_lt_of_lt_mul (by rw [Nat.mul_comm]; exact hj)
  have hx : xs[j / sz]? = some xs[j / sz] := List.getElem?_eq_getElem hk
  have hi : j % sz < (enc xs[j / sz]).length := by rw [he]; exact Nat.mod_lt _ hsz
  have hv : (enc xs[j / sz])[j % sz]? = some (enc xs[j / sz])[j % sz] := List.getElem?_eq_getElem hi
  have h1 := flat_get he xs _ _ hx _ _ hv
  have e2 : j / sz * sz + j % sz = j := by rw [Nat.mul_comm]; exact Nat.div_add_mod j sz
  rw [e2, hu] at h1
  injection h1 with h1
  have h2 := hc _ _ hx _ _ hv
  rw [← h1] at h2
  unfold Addr.add
  split
  · rename_i h0
    subst h0
    simpa using h2
  · show w.cell? ⟨b, off + j, none⟩ = some u
    rw [Nat.add_assoc, e2] at h2
    exact h2
theorem bdC_one (xs : List Bd) : ∀ u ∈ flat bdC xs, u.oneCell' = true := by
  intro u hu
  unfold flat at hu
  obtain ⟨b, _, hb⟩ := List.mem_flatMap.1 hu
  simp [bdC] at hb
  rcases hb with rfl | rfl <;> rfl

set_option maxRecDepth 100000 in
set_option maxHeartbeats 2000000 in
theorem cloneBd_any (A : Option Addr) (n c : Nat) (bs : List Bd) (w : World) (hn : n ≤ 8) (ha : Rd bdC 2 w w.heap.size A n bs) :
    Calls Try.prog 63 #[.slice A n c] w fun e w' => ∃ B d, e = .returned (.slice B n d) ∧ w'.ownsRow w.heap.size 33 2 (.slice B n d) n (flat bdC bs) ∧ Below w.heap.size w w' := by
  obtain ⟨i0, hi, hz0, hz1, hz2⟩ := info_parts infoBd
  cases A with
  | none =>
    have h0 : n = 0 := by
      rcases Nat.eq_zero_or_pos n with h | h
      · exact h
      · obtain ⟨b, off, e, _⟩ := ha.2 h; cases e
    subst h0
    have hb : bs = [] := List.eq_nil_of_length_eq_zero ha.1
    subst hb
    have hq := fun wx => Lib.run_eql_slice_nil (P := Try.prog) wx 34 33 none 0 c 0 0 Try.underlying34
    go_enter Try.func63, Try.ntmps63
    go_wp2
    go_ret
    exact ⟨none, 0, rfl, ⟨rfl, .inl ⟨rfl, rfl⟩⟩, Below.refl _ _⟩
  | some ad =>
    have hq := fun wx => Lib.run_eql_slice_nil (P := Try.prog) wx 34 33 (some ad) n c 0 0 Try.underlying34
    have hB := (show Below w.heap.size w (w.alloc (Obj.cells #[] 33)) by (repeat (first | with_reducible assumption | exact Below.refl _ _ | (refine Below.setCell ?_ (by first | exact Nat.le_refl _ | (simp; done) | omega | (simp; omega)) _) | (refine below_drewN ?_ _) | (refine Below.drew ?_) | (refine Below.alloc ?_ (by first | exact Nat.le_refl _ | (simp; done) | omega | (simp; omega)) _) | (refine then_ ?_ (by with_reducible assumption)) | assumption | (refine then_ ?_ (by assumption)))))
    have o0 := Lib.hid (World.ownsRow_lit (base := w.heap.size) (size := 2) (e := 33) w #[] 0 (Nat.le_refl _) (by simp [maxLen]) rfl)
    have r1 := Lib.hid (ha.step hB)
    have hlen : (flat bdC bs).length = n * 2 := by rw [flat_length bdC_len, ha.1]
    clear ha
    go_enter Try.func63, Try.ntmps63
    go_wp2_with (at_builtin; refine wpList_append_own_at _ rfl _ _ 34 rfl w.heap.size 33 i0 (.agg #[.complex .f32 0 0, .complex .f32 0 0]) 2 16 Try.underlying34 hi hz0 hz1 hz2 rfl (by decide) _ _ _ rfl o0.out ad n c (flat bdC bs) rfl hlen (Rd.cells bdC_len (by omega) r1.out) (bdC_one bs) (by unfold maxLen; omega) (by omega) (by simp) ?_; intro v3 w3 hown3 hg3 hne3 hat3; have GB3 := Lib.hid hg3; have OW3 := Lib.hid hown3; clear hown3 hg3 hne3 hat3)
    obtain ⟨B3, d3, rfl⟩ := owns_slice OW3.out
    have own := OW3.out
    rw [Nat.zero_add, List.nil_append] at own
    go_ret
    refine ⟨B3, d3, by show Ending.returned (Value.slice B3 (0 + n) d3) = _; rw [Nat.zero_add], own, hB.grown GB3.out (by simp) (fun k hk => ?_)⟩
    exact (o0.out.lt k hk).1

set_option maxHeartbeats 2000000 in
theorem cloneTumble_any (mir : Int) (gr : Pt) (loss : Nat) (A : Option Addr) (n c : Nat) (bs : List Bd) (w : World) (hn : n ≤ 8) (ha : Rd bdC 2 w w.heap.size A n bs) :
    Calls Try.prog 44 #[.agg #[.int .i64 mir, .complex .f32 gr.1 gr.2, .float .f32 loss, .slice A n c]] w fun e w' => ∃ B d, e = .returned (.agg #[.int .i64 mir, .complex .f32 gr.1 gr.2, .float .f32 loss, .slice B n d]) ∧ w'.ownsRow w.heap.size 33 2 (.slice B n d) n (flat bdC bs) ∧ Below w.heap.size w w' := by
  go_enter Try.func44, Try.ntmps44
  go_wp2_with fail
  obtain ⟨W, hWe⟩ : ∃ W, W = (w.alloc (Obj.cells #[.int .i64 mir, .complex .f32 gr.1 gr.2, .float .f32 loss, .slice A n c] 37)).alloc (Obj.cells #[.int .i64 0, .complex .f32 0 0, .float .f32 0, .slice none 0 0] 37) := ⟨_, rfl⟩
  have hW : Below w.heap.size w W := by rw [hWe]; (repeat (first | with_reducible assumption | exact Below.refl _ _ | (refine Below.setCell ?_ (by first | exact Nat.le_refl _ | (simp; done) | omega | (simp; omega)) _) | (refine below_drewN ?_ _) | (refine Below.drew ?_) | (refine Below.alloc ?_ (by first | exact Nat.le_refl _ | (simp; done) | omega | (simp; omega)) _) | (refine then_ ?_ (by with_reducible assumption)) | assumption | (refine then_ ?_ (by assumption))))
  have zW : W.heap.size = w.heap.size + 2 := by rw [hWe]; simp
  have c0 : W.cell? ⟨w.heap.size, 0, none⟩ = some (.int .i64 mir) := by rw [hWe]; simp [go_sem]
  have c1 : W.cell? ⟨w.heap.size, 1, none⟩ = some (.complex .f32 gr.1 gr.2) := by rw [hWe]; simp [go_sem]
  have c2 : W.cell? ⟨w.heap.size, 2, none⟩ = some (.float .f32 loss) := by rw [hWe]; simp [go_sem]
  have c3 : W.cell? ⟨w.heap.size, 3, none⟩ = some (.slice A n c) := by rw [hWe]; simp [go_sem]
  have cf : W.frozen? ⟨w.heap.size, 3, none⟩ = false := by rw [hWe]; simp [go_sem]
  have d0 : W.cell? ⟨w.heap.size + 1, 0, none⟩ = some (.int .i64 0) := by rw [hWe]; simp [go_sem]
  have d1 : W.cell? ⟨w.heap.size + 1, 1, none⟩ = some (.complex .f32 0 0) := by rw [hWe]; simp [go_sem]
  have d2 : W.cell? ⟨w.heap.size + 1, 2, none⟩ = some (.float .f32 0) := by rw [hWe]; simp [go_sem]
  have d3 : W.cell? ⟨w.heap.size + 1, 3, none⟩ = some (.slice none 0 0) := by rw [hWe]; simp [go_sem]
  have df : ∀ j, W.frozen? ⟨w.heap.size + 1, j, none⟩ = false := by intro j; rw [hWe]; simp [go_sem]
  rw [← hWe]
  clear hWe
  refine (cloneBd_any A n c bs _ hn (ha.step hW)).mono ?_
  rintro e w2 ⟨B, d, rfl, ho, hb⟩
  have cf := keepF c3 cf hb
  have c0 := keepC c0 hb
  have c1 := keepC c1 hb
  have c2 := keepC c2 hb
  have c3 := keepC c3 hb
  have f0 := keepF d0 (df 0) hb
  have f1 := keepF d1 (df 1) hb
  have f2 := keepF d2 (df 2) hb
  have f3 := keepF d3 (df 3) hb
  have d0 := keepC d0 hb
  have d1 := keepC d1 hb
  have d2 := keepC d2 hb
  have d3 := keepC d3 hb
  have hW2 := then_ hW hb
  have z2 := hb.size
  have O2 := Lib.hid ho
  have lw : w.heap.size < w2.heap.size := by omega
  have lw2 : w.heap.size + 1 < w2.heap.size := by omega
  clear df ho hb hW
  go_wp2
  have lW : w.heap.size < W.heap.size := by omega
  have lW2 : w.heap.size + 1 < W.heap.size := by omega
  have lle : w.heap.size ≤ W.heap.size := by omega
  have l1 : w.heap.size ≤ w.heap.size + 1 := by omega
  refine bodyPost_ret (v := .agg #[.int .i64 mir, .complex .f32 gr.1 gr.2, .float .f32 loss, .slice B n d]) (by simp [results, Try.results44, go_sem, d0, d1, d2, d3]) rfl ⟨B, d, rfl, ?_, ?_⟩
  · exact owns_mono (ownsRow_setCell_below (ownsRow_setCell_below (ownsRow_setCell_below (ownsRow_setCell_below (ownsRow_setCell_below O2.out lW _) lW2 _) lW2 _) lW2 _) lW2 _) lle
  · exact ((((hW2.setCell (Nat.le_refl _) _).setCell l1 _).setCell l1 _).setCell l1 _).setCell l1 _
end Go.Proofs.Ytdjbpbolliphkaa
