
/- IsShard, AreShards, less, SideOf, lies: the program's, of valid glass. -/
import Derived.Test.YtchkcleenmoajaaM37
import Derived.Deep.QuietTactic
import Derived.BigQuiet
namespace Go.Proofs.Ytchkcleenmoajaa
open Go.RowKit
attribute [local go_sem] run_store_float run_store_complex

theorem Rd.sh {w : World} {B : Nat} {A : Option Addr} {n k : Nat} {xs : List Sh} (h : Rd shC 7 w B A n xs) (hk : k < n) :
    ∃ b off a c d r g l q, A = some ⟨b, off, none⟩ ∧ b < B ∧ xs[k]? = some (a, c, d, (r, g, l), q) ∧ w.cell? ⟨b, off + k * 7, none⟩ = some (.complex .f32 a.1 a.2) ∧ w.cell? ⟨b, off + k * 7 + 1, none⟩ = some (.complex .f32 c.1 c.2) ∧ w.cell? ⟨b, off + k * 7 + 2, none⟩ = some (.complex .f32 d.1 d.2) ∧ w.cell? ⟨b, off + k * 7 + 3, none⟩ = some (.float .f32 r) ∧ w.cell? ⟨b, off + k * 7 + 4, none⟩ = some (.float .f32 g) ∧ w.cell? ⟨b, off + k * 7 + 5, none⟩ = some (.float .f32 l) ∧ w.cell? ⟨b, off + k * 7 + 6, none⟩ = some (.float .f32 q) := by
  obtain ⟨b, off, ⟨a, c, d, ⟨r, g, l⟩, q⟩, e, hb, hx, hc⟩ := h.at_ hk
  exact ⟨b, off, a, c, d, r, g, l, q, e, hb, hx, hc 0 _ rfl, hc 1 _ rfl, hc 2 _ rfl, hc 3 _ rfl, hc 4 _ rfl, hc 5 _ rfl, hc 6 _ rfl⟩

set_option maxHeartbeats 4000000 in
theorem isShard_yes (a c d : Pt) (r g l q : Nat) (w : World) (h : okSh (a, c, d, (r, g, l), q) = true) :
    Calls Try.prog 25 #[.agg #[.complex .f32 a.1 a.2, .complex .f32 c.1 c.2, .complex .f32 d.1 d.2, .float .f32 r, .float .f32 g, .float .f32 l, .float .f32 q]] w fun e w' => e = .returned (.bool true) ∧ Below w.heap.size w w' := by
  obtain ⟨h1, h2, h3, h4, h5⟩ := okSh_parts h
  dsimp only at h1 h2 h3 h4 h5
  clear h
  go_enter Try.func25, Try.ntmps25
  go_wp2_with (first
    | (go_at_call 49; (with_reducible refine (isPoint_any a.1 a.2 _).mono ?_); rintro e w' ⟨rfl, rfl⟩; simp only [h1])
    | (go_at_call 49; (with_reducible refine (isPoint_any c.1 c.2 _).mono ?_); rintro e w' ⟨rfl, rfl⟩; simp only [h2])
    | (go_at_call 49; (with_reducible refine (isPoint_any d.1 d.2 _).mono ?_); rintro e w' ⟨rfl, rfl⟩; simp only [h3])
    | (go_at_call 31; (with_reducible refine (isColour_any r g l _).mono ?_); rintro e w1 ⟨rfl, hb1⟩; simp only [h4]; have kq := keepC (p := ⟨w.heap.size, 6, none⟩) (v := .float .f32 q) (by simp [go_sem]) hb1; have lq := (show w.heap.size < w1.heap.size from World.block_lt_of_cell? _ _ kq))
    | (go_at_call 50; (with_reducible refine (isPart_any _ _).mono ?_); rintro e w' ⟨rfl, rfl⟩; simp only [h5]))
  go_ret
  exact ⟨rfl, by (repeat (first | with_reducible assumption | exact Below.refl _ _ | (refine Below.setCell ?_ (by first | exact Nat.le_refl _ | (simp; done) | omega | (simp; omega)) _) | (refine below_drewN ?_ _) | (refine Below.drew ?_) | (refine Below.alloc ?_ (by first | exact Nat.le_refl _ | (simp; done) | omega | (simp; omega)) _) | (refine then_ ?_ (by with_reducible assumption)) | assumption | (refine then_ ?_ (by assumption))))⟩
set_option maxHeartbeats 2000000 in
theorem shardF_yes (a c d : Pt) (r g l q : Nat) (w : World) (h : okSh (a, c, d, (r, g, l), q) = true) :
    Calls Try.prog 54 #[.agg #[.complex .f32 a.1 a.2, .complex .f32 c.1 c.2, .complex .f32 d.1 d.2, .float .f32 r, .float .f32 g, .float .f32 l, .float .f32 q]] w fun e w' => e = .returned (.bool false) ∧ Below w.heap.size w w' := by
  have K := Lib.hid (fun w => isShard_yes a c d r g l q w h)
  go_enter Try.func54, Try.ntmps54
  go_wp2_with (go_at_call 25; (with_reducible refine (K.out _).mono ?_); rintro e w1 ⟨rfl, hb1⟩)
  go_ret
  exact ⟨rfl, by (repeat (first | with_reducible assumption | exact Below.refl _ _ | (refine Below.setCell ?_ (by first | exact Nat.le_refl _ | (simp; done) | omega | (simp; omega)) _) | (refine below_drewN ?_ _) | (refine Below.drew ?_) | (refine Below.alloc ?_ (by first | exact Nat.le_refl _ | (simp; done) | omega | (simp; omega)) _) | (refine then_ ?_ (by with_reducible assumption)) | assumption | (refine then_ ?_ (by assumption))))⟩
set_option maxRecDepth 100000 in
set_option maxHeartbeats 4000000 in
theorem indexShard_yes (H : Option Addr) (p pc : Nat) (ls : List Sh) (w : World) (hp : p ≤ 1048576) (hok : ls.all okSh = true) (hs : Rd shC 7 w w.heap.size H p ls) :
    Calls Try.prog 67 #[.slice H p pc, .func (.func 54) #[] #[]] w fun e w' => e = .returned (.int .i64 (-1)) ∧ Below w.heap.size w w' := by
  have HOK := Lib.hid hok
  clear hok
  go_enter Try.func67, Try.ntmps67
  go_wp2
  go_loopw [5, 8] (fun _ i wr => ∃ k : Nat, k ≤ p ∧ i = .int .i64 k ∧ Below w.heap.size w wr) (fun _ i _ => p - (intOf i).toNat)
  case atStart => exact ⟨0, Nat.zero_le _, rfl, Below.refl _ _⟩
  case round =>
    obtain ⟨k, hk, rfl, hw⟩ := hrel
    by_cases hlt : k < p
    · obtain ⟨bb, off, a, c, d, r, g, l, q, rfl, hbl, hx, c0, c1, c2, c3, c4, c5, c6⟩ := (hs.step hw).sh hlt
      have hki : (k : Int) < (p : Int) := by omega
      have hk0 : (0 : Int) ≤ (k : Int) := by omega
      have ho := List.all_eq_true.1 HOK.out _ (List.mem_of_getElem? hx)
      have K := Lib.hid (fun w => shardF_yes a c d r g l q w ho)
      clear hx ho
      go_wp2_with (go_at_call 54; (with_reducible refine (K.out _).mono ?_); rintro e w1 ⟨rfl, hb1⟩)
      go_roundw
      case rel => exact ⟨k + 1, by omega, by go_num, by (repeat (first | with_reducible assumption | exact Below.refl _ _ | (refine Below.setCell ?_ (by first | exact Nat.le_refl _ | (simp; done) | omega | (simp; omega)) _) | (refine below_drewN ?_ _) | (refine Below.drew ?_) | (refine Below.alloc ?_ (by first | exact Nat.le_refl _ | (simp; done) | omega | (simp; omega)) _) | (refine then_ ?_ (by with_reducible assumption)) | assumption | (refine then_ ?_ (by assumption))))⟩
      case measure => simp [intOf]; omega
    · obtain rfl : k = p := by omega
      go_wp2
      go_ret
      exact ⟨rfl, hw⟩
set_option maxHeartbeats 2000000 in
theorem containsShard_yes (H : Option Addr) (p pc : Nat) (ls : List Sh) (w : World) (hp : p ≤ 1048576) (hok : ls.all okSh = true) (hs : Rd shC 7 w w.heap.size H p ls) :
    Calls Try.prog 53 #[.slice H p pc, .func (.func 54) #[] #[]] w fun e w' => e = .returned (.bool false) ∧ Below w.heap.size w w' := by
  go_enter Try.func53, Try.ntmps53
  go_wp2_with (go_at_call 67; refine (indexShard_yes H p pc ls _ hp hok hs).mono ?_; rintro e w1 ⟨rfl, hb1⟩)
  go_ret
  exact ⟨rfl, hb1⟩
set_option maxHeartbeats 2000000 in
theorem areShards_yes (H : Option Addr) (p pc : Nat) (ls : List Sh) (w : World) (hp : p ≤ 12) (hok : ls.all okSh = true) (hs : Rd shC 7 w w.heap.size H p ls) :
    Calls Try.prog 28 #[.slice H p pc] w fun e w' => e = .returned (.bool true) ∧ Below w.heap.size w w' := by
  have h12 : (p : Int) ≤ 12 := by omega
  have hd : decide ((p : Int) ≤ 12) = true := by simp [h12]
  go_enter Try.func28, Try.ntmps28
  go_wp2_with (go_at_call 53; refine (containsShard_yes H p pc ls _ (by omega) hok hs).mono ?_; rintro e w1 ⟨rfl, hb1⟩)
  go_ret
  exact ⟨rfl, hb1⟩

theorem less_any (a b : Pt) (w : World) :
    Calls Try.prog 74 #[.complex .f32 a.1 a.2, .complex .f32 b.1 b.2] w fun e w' => e = .returned (.complex .f32 (lessP a b).1 (lessP a b).2) ∧ Dr w w' := by
  go_enter Try.func74, Try.ntmps74
  go_wp2_with fail
  refine (diff_any _ _ _).mono ?_
  rintro e w' ⟨rfl, n, rfl⟩
  go_wp2_with fail
  refine (diff_any _ _ _).mono ?_
  rintro e w' ⟨rfl, k, rfl⟩
  go_wp2
  go_ret
  exact ⟨rfl, n + k, rfl⟩
set_option maxHeartbeats 2000000 in
theorem sideOf_yes (a b p : Pt) (w : World) (ha : pointB a.1 a.2 = true) (hb : pointB b.1 b.2 = true) (hp : pointB p.1 p.2 = true) :
    Calls Try.prog 68 #[.complex .f32 a.1 a.2, .complex .f32 b.1 b.2, .complex .f32 p.1 p.2] w fun e w' => e = .returned (.float .f32 (sideN a b p)) ∧ Dr w w' := by
  obtain ⟨d, hd⟩ : ∃ d, d = lessP b a := ⟨_, rfl⟩
  obtain ⟨e, he⟩ : ∃ e, e = lessP p a := ⟨_, rfl⟩
  have k1 := fun w => less_any b a w
  have k2 := fun w => less_any p a w
  rw [← hd] at k1
  rw [← he] at k2
  have K1 := Lib.hid k1
  have K2 := Lib.hid k2
  have S := Lib.hid (show sideN a b p = subB (mulB d.1 e.2) (mulB d.2 e.1) by unfold sideN; rw [← hd, ← he])
  clear k1 k2 hd he
  go_enter Try.func68, Try.ntmps68
  go_wp2_with (first
    | (go_at_call 49; (with_reducible refine (isPoint_any a.1 a.2 _).mono ?_); rintro e w' ⟨rfl, rfl⟩; simp only [ha])
    | (go_at_call 49; (with_reducible refine (isPoint_any b.1 b.2 _).mono ?_); rintro e w' ⟨rfl, rfl⟩; simp only [hb])
    | (go_at_call 49; (with_reducible refine (isPoint_any p.1 p.2 _).mono ?_); rintro e w' ⟨rfl, rfl⟩; simp only [hp])
    | (go_at_call 74; (with_reducible refine (K1.out _).mono ?_); rintro e w' ⟨rfl, n1, rfl⟩)
    | (go_at_call 74; (with_reducible refine (K2.out _).mono ?_); rintro e w' ⟨rfl, n2, rfl⟩)
    | (go_at_call 34; (with_reducible refine (times_any _ _ _).mono ?_); rintro e w' ⟨rfl, n3, rfl⟩)
    | (go_at_call 51; (with_reducible refine (diff_any _ _ _).mono ?_); rintro e w' ⟨rfl, n4, rfl⟩))
  go_ret
  exact ⟨by rw [S.out]; rfl, Dr.drewN _ _⟩
theorem sideOf_q (a b p : Pt) (w : World) (ha : pointB a.1 a.2 = true) (hb : pointB b.1 b.2 = true) (hp : pointB p.1 p.2 = true) :
    Calls Try.prog 68 #[.complex .f32 a.1 a.2, .complex .f32 b.1 b.2, .complex .f32 p.1 p.2] w fun e w' => e = .returned (.float .f32 (sideN a b p)) ∧ ∃ m, w' = w.drewN m := (sideOf_yes a b p w ha hb hp).mono (fun _ _ ⟨h, m, e⟩ => ⟨h, m, e.symm⟩)
set_option maxHeartbeats 8000000 in
theorem lies_yes (a c d : Pt) (r g l q : Nat) (p : Pt) (w : World) (h : okSh (a, c, d, (r, g, l), q) = true) (hp : pointB p.1 p.2 = true) :
    Calls Try.prog 56 #[.agg #[.complex .f32 a.1 a.2, .complex .f32 c.1 c.2, .complex .f32 d.1 d.2, .float .f32 r, .float .f32 g, .float .f32 l, .float .f32 q], .complex .f32 p.1 p.2] w fun e w' => e = .returned (.bool (liesB (a, c, d, (r, g, l), q) p)) ∧ Below w.heap.size w w' := by
  obtain ⟨h1, h2, h3, h4, h5⟩ := okSh_parts h
  dsimp only at h1 h2 h3 h4 h5
  obtain ⟨x, hx⟩ : ∃ x, x = sideN a c p := ⟨_, rfl⟩
  obtain ⟨y, hy⟩ : ∃ y, y = sideN c d p := ⟨_, rfl⟩
  obtain ⟨z, hz⟩ : ∃ z, z = sideN d a p := ⟨_, rfl⟩
  have k1 := fun w => sideOf_q a c p w h1 h2 hp
  have k2 := fun w => sideOf_q c d p w h2 h3 hp
  have k3 := fun w => sideOf_q d a p w h3 h1 hp
  rw [← hx] at k1
  rw [← hy] at k2
  rw [← hz] at k3
  have K1 := Lib.hid k1
  have K2 := Lib.hid k2
  have K3 := Lib.hid k3
  have L := Lib.hid (show liesB (a, c, d, (r, g, l), q) p = ((geB x 0 && (geB y 0 && geB z 0)) || (leB x 0 && (leB y 0 && leB z 0))) by unfold liesB; rw [hx, hy, hz])
  clear k1 k2 k3 hx hy hz h h1 h2 h3 h4 h5 hp
  go_enter Try.func56, Try.ntmps56
  go_wp2_with fail
  obtain ⟨W, hWe⟩ : ∃ W, W = w.alloc (Obj.cells #[.complex .f32 a.1 a.2, .complex .f32 c.1 c.2, .complex .f32 d.1 d.2, .float .f32 r, .float .f32 g, .float .f32 l, .float .f32 q] 36) := ⟨_, rfl⟩
  have hW : Below w.heap.size w W := by rw [hWe]; (repeat (first | with_reducible assumption | exact Below.refl _ _ | (refine Below.setCell ?_ (by first | exact Nat.le_refl _ | (simp; done) | omega | (simp; omega)) _) | (refine below_drewN ?_ _) | (refine Below.drew ?_) | (refine Below.alloc ?_ (by first | exact Nat.le_refl _ | (simp; done) | omega | (simp; omega)) _) | (refine then_ ?_ (by with_reducible assumption)) | assumption | (refine then_ ?_ (by assumption))))
  have c0 : W.cell? ⟨w.heap.size, 0, none⟩ = some (.complex .f32 a.1 a.2) := by rw [hWe]; simp [go_sem]
  have c1 : W.cell? ⟨w.heap.size, 1, none⟩ = some (.complex .f32 c.1 c.2) := by rw [hWe]; simp [go_sem]
  have c2 : W.cell? ⟨w.heap.size, 2, none⟩ = some (.complex .f32 d.1 d.2) := by rw [hWe]; simp [go_sem]
  rw [← hWe]
  clear hWe
  go_quiet (first
    | (go_at_call 68; with_reducible exact Calls.quiet_of (K1.out _))
    | (go_at_call 68; with_reducible exact Calls.quiet_of (K2.out _))
    | (go_at_call 68; with_reducible exact Calls.quiet_of (K3.out _)))
  have B1 := below_drewN hW nq
  have e1 : (FloatKind.f32.format.order x 0 == some .gt || FloatKind.f32.format.order x 0 == some .eq) = geB x 0 := rfl
  have e2 : (FloatKind.f32.format.order y 0 == some .gt || FloatKind.f32.format.order y 0 == some .eq) = geB y 0 := rfl
  have e3 : (FloatKind.f32.format.order z 0 == some .gt || FloatKind.f32.format.order z 0 == some .eq) = geB z 0 := rfl
  have e4 : (FloatKind.f32.format.order x 0 == some .lt || FloatKind.f32.format.order x 0 == some .eq) = leB x 0 := rfl
  have e5 : (FloatKind.f32.format.order y 0 == some .lt || FloatKind.f32.format.order y 0 == some .eq) = leB y 0 := rfl
  have e6 : (FloatKind.f32.format.order z 0 == some .lt || FloatKind.f32.format.order z 0 == some .eq) = leB z 0 := rfl
  clear hW c0 c1 c2
  generalize geB x 0 = gx at e1 L
  generalize geB y 0 = gy at e2 L
  generalize geB z 0 = gz at e3 L
  generalize leB x 0 = lx at e4 L
  generalize leB y 0 = ly at e5 L
  generalize leB z 0 = lz at e6 L
  cases gx <;> cases gy <;> cases gz <;> cases lx <;> cases ly <;> cases lz <;> (go_wp2; go_ret; exact ⟨by rw [L.out]; rfl, B1⟩)
end Go.Proofs.Ytchkcleenmoajaa
