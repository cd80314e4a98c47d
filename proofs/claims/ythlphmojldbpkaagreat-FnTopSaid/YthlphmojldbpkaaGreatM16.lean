/- Shard · SHapS · SDoP -/
import Derived.Test.YthlphmojldbpkaaGreatM15
import Derived.Deep.QuietTactic
import Derived.BigQuiet
import Derived.Test.YthlphmojldbpkaaGreatM8
import Derived.Test.YthlphmojldbpkaaGreatM1
import Derived.Test.YthlphmojldbpkaaGreatM3
import Derived.Test.YthlphmojldbpkaaGreatHapP
import Derived.Deep.RegionHeld3
import Derived.Deep.RegionLaw

/- IsShard, AreShards, less, SideOf, lies: the program's, of valid glass. -/
namespace Go.Proofs.YthlphmojldbpkaaGreat
open Go.RowKit
attribute [local go_sem] run_store_float run_store_complex

theorem Rd.sh {w : World} {B : Nat} {A : Option Addr} {n k : Nat} {xs : List Sh} (h : Rd shC 7 w B A n xs) (hk : k < n) :
    ∃ b off a c d r g l q, A = some ⟨b, off, none⟩ ∧ b < B ∧ xs[k]? = some (a, c, d, (r, g, l), q) ∧ w.cell? ⟨b, off + k * 7, none⟩ = some (.complex .f32 a.1 a.2) ∧ w.cell? ⟨b, off + k * 7 + 1, none⟩ = some (.complex .f32 c.1 c.2) ∧ w.cell? ⟨b, off + k * 7 + 2, none⟩ = some (.complex .f32 d.1 d.2) ∧ w.cell? ⟨b, off + k * 7 + 3, none⟩ = some (.float .f32 r) ∧ w.cell? ⟨b, off + k * 7 + 4, none⟩ = some (.float .f32 g) ∧ w.cell? ⟨b, off + k * 7 + 5, none⟩ = some (.float .f32 l) ∧ w.cell? ⟨b, off + k * 7 + 6, none⟩ = some (.float .f32 q) := by
  obtain ⟨b, off, ⟨a, c, d, ⟨r, g, l⟩, q⟩, e, hb, hx, hc⟩ := h.at_ hk
  exact ⟨b, off, a, c, d, r, g, l, q, e, hb, hx, hc 0 _ rfl, hc 1 _ rfl, hc 2 _ rfl, hc 3 _ rfl, hc 4 _ rfl, hc 5 _ rfl, hc 6 _ rfl⟩

set_option maxHeartbeats 4000000 in
theorem isShard_yes (a c d : Pt) (r g l q : Nat) (w : World) (h : okSh (a, c, d, (r, g, l), q) = true) :
    Calls Tryz.prog 75 #[.agg #[.complex .f32 a.1 a.2, .complex .f32 c.1 c.2, .complex .f32 d.1 d.2, .float .f32 r, .float .f32 g, .float .f32 l, .float .f32 q]] w fun e w' => e = .returned (.bool true) ∧ Below w.heap.size w w' := by
  obtain ⟨h1, h2, h3, h4, h5⟩ := okSh_parts h
  dsimp only at h1 h2 h3 h4 h5
  clear h
  go_enter Tryz.func75, Tryz.ntmps75
  go_wp2_with (first
    | (go_at_call 42; (with_reducible refine (isPoint_any a.1 a.2 _).mono ?_); rintro e w' ⟨rfl, rfl⟩; simp only [h1])
    | (go_at_call 42; (with_reducible refine (isPoint_any c.1 c.2 _).mono ?_); rintro e w' ⟨rfl, rfl⟩; simp only [h2])
    | (go_at_call 42; (with_reducible refine (isPoint_any d.1 d.2 _).mono ?_); rintro e w' ⟨rfl, rfl⟩; simp only [h3])
    | (go_at_call 52; (with_reducible refine (isColour_any r g l _).mono ?_); rintro e w1 ⟨rfl, hb1⟩; simp only [h4]; have kq := keepC (p := ⟨w.heap.size, 6, none⟩) (v := .float .f32 q) (by simp [go_sem]) hb1; have lq := (show w.heap.size < w1.heap.size from World.block_lt_of_cell? _ _ kq))
    | (go_at_call 95; (with_reducible refine (isPart_any _ _).mono ?_); rintro e w' ⟨rfl, rfl⟩; simp only [h5]))
  go_ret
  exact ⟨rfl, by (repeat (first | with_reducible assumption | exact Below.refl _ _ | (refine Below.setCell ?_ (by first | exact Nat.le_refl _ | (simp; done) | omega | (simp; omega)) _) | (refine below_drewN ?_ _) | (refine Below.drew ?_) | (refine Below.alloc ?_ (by first | exact Nat.le_refl _ | (simp; done) | omega | (simp; omega)) _) | (refine then_ ?_ (by with_reducible assumption)) | assumption | (refine then_ ?_ (by assumption))))⟩
set_option maxHeartbeats 2000000 in
theorem shardF_yes (a c d : Pt) (r g l q : Nat) (w : World) (h : okSh (a, c, d, (r, g, l), q) = true) :
    Calls Tryz.prog 105 #[.agg #[.complex .f32 a.1 a.2, .complex .f32 c.1 c.2, .complex .f32 d.1 d.2, .float .f32 r, .float .f32 g, .float .f32 l, .float .f32 q]] w fun e w' => e = .returned (.bool false) ∧ Below w.heap.size w w' := by
  have K := Lib.hid (fun w => isShard_yes a c d r g l q w h)
  go_enter Tryz.func105, Tryz.ntmps105
  go_wp2_with (go_at_call 75; (with_reducible refine (K.out _).mono ?_); rintro e w1 ⟨rfl, hb1⟩)
  go_ret
  exact ⟨rfl, by (repeat (first | with_reducible assumption | exact Below.refl _ _ | (refine Below.setCell ?_ (by first | exact Nat.le_refl _ | (simp; done) | omega | (simp; omega)) _) | (refine below_drewN ?_ _) | (refine Below.drew ?_) | (refine Below.alloc ?_ (by first | exact Nat.le_refl _ | (simp; done) | omega | (simp; omega)) _) | (refine then_ ?_ (by with_reducible assumption)) | assumption | (refine then_ ?_ (by assumption))))⟩
set_option maxRecDepth 100000 in
set_option maxHeartbeats 4000000 in
theorem indexShard_yes (H : Option Addr) (p pc : Nat) (ls : List Sh) (w : World) (hp : p ≤ 1048576) (hok : ls.all okSh = true) (hs : Rd shC 7 w w.heap.size H p ls) :
    Calls Tryz.prog 138 #[.slice H p pc, .func (.func 105) #[] #[]] w fun e w' => e = .returned (.int .i64 (-1)) ∧ Below w.heap.size w w' := by
  have HOK := Lib.hid hok
  clear hok
  go_enter Tryz.func138, Tryz.ntmps138
  go_wp2
  go_loopw [5, 8] (fun _ i wr => ∃ k : Nat, k ≤ p ∧ i = .int .i64 k ∧ Below w.heap.size w wr) (fun _ i _ => p - (intOf i).toNat)
  case atStart => exact ⟨0, Nat.zero_le _, rfl, Below.refl _ _⟩
  case round =>
    obtain ⟨k, hk, rfl, hw⟩ := hrel
    by_cases hlt : k < p
    · obtain ⟨bb, off, a, c, d, r, g, l, q, rfl, hbl, hx, c0, c1, c2, c3, c4, c5, c6⟩ := (hs.step hw).sh hlt
      have hki : (k : Int) < (p : Int) := by omega
      have hk0 : (0 : Int) ≤ (k : Int) := by omega
      have ho := List.all_eq_true.1 HOK.out _ (List.mem_of_getElem? hx)
      have K := Lib.hid (fun w => shardF_yes a c d r g l q w ho)
      clear hx ho
      go_wp2_with (go_at_call 105; (with_reducible refine (K.out _).mono ?_); rintro e w1 ⟨rfl, hb1⟩)
      go_roundw
      case rel => exact ⟨k + 1, by omega, by go_num, by (repeat (first | with_reducible assumption | exact Below.refl _ _ | (refine Below.setCell ?_ (by first | exact Nat.le_refl _ | (simp; done) | omega | (simp; omega)) _) | (refine below_drewN ?_ _) | (refine Below.drew ?_) | (refine Below.alloc ?_ (by first | exact Nat.le_refl _ | (simp; done) | omega | (simp; omega)) _) | (refine then_ ?_ (by with_reducible assumption)) | assumption | (refine then_ ?_ (by assumption))))⟩
      case measure => simp [intOf]; omega
    · obtain rfl : k = p := by omega
      go_wp2
      go_ret
      exact ⟨rfl, hw⟩
set_option maxHeartbeats 2000000 in
theorem containsShard_yes (H : Option Addr) (p pc : Nat) (ls : List Sh) (w : World) (hp : p ≤ 1048576) (hok : ls.all okSh = true) (hs : Rd shC 7 w w.heap.size H p ls) :
    Calls Tryz.prog 104 #[.slice H p pc, .func (.func 105) #[] #[]] w fun e w' => e = .returned (.bool false) ∧ Below w.heap.size w w' := by
  go_enter Tryz.func104, Tryz.ntmps104
  go_wp2_with (go_at_call 138; refine (indexShard_yes H p pc ls _ hp hok hs).mono ?_; rintro e w1 ⟨rfl, hb1⟩)
  go_ret
  exact ⟨rfl, hb1⟩
set_option maxHeartbeats 2000000 in
theorem areShards_yes (H : Option Addr) (p pc : Nat) (ls : List Sh) (w : World) (hp : p ≤ 12) (hok : ls.all okSh = true) (hs : Rd shC 7 w w.heap.size H p ls) :
    Calls Tryz.prog 71 #[.slice H p pc] w fun e w' => e = .returned (.bool true) ∧ Below w.heap.size w w' := by
  have h12 : (p : Int) ≤ 12 := by omega
  have hd : decide ((p : Int) ≤ 12) = true := by simp [h12]
  go_enter Tryz.func71, Tryz.ntmps71
  go_wp2_with (go_at_call 104; refine (containsShard_yes H p pc ls _ (by omega) hok hs).mono ?_; rintro e w1 ⟨rfl, hb1⟩)
  go_ret
  exact ⟨rfl, hb1⟩

theorem less_any (a b : Pt) (w : World) :
    Calls Tryz.prog 155 #[.complex .f32 a.1 a.2, .complex .f32 b.1 b.2] w fun e w' => e = .returned (.complex .f32 (lessP a b).1 (lessP a b).2) ∧ Dr w w' := by
  go_enter Tryz.func155, Tryz.ntmps155
  go_wp2_with fail
  refine (diff_any _ _ _).mono ?_
  rintro e w' ⟨rfl, n, rfl⟩
  go_wp2_with fail
  refine (diff_any _ _ _).mono ?_
  rintro e w' ⟨rfl, k, rfl⟩
  go_wp2
  go_ret
  exact ⟨rfl, n + k, rfl⟩
set_option maxHeartbeats 2000000 in
theorem sideOf_yes (a b p : Pt) (w : World) (ha : pointB a.1 a.2 = true) (hb : pointB b.1 b.2 = true) (hp : pointB p.1 p.2 = true) :
    Calls Tryz.prog 140 #[.complex .f32 a.1 a.2, .complex .f32 b.1 b.2, .complex .f32 p.1 p.2] w fun e w' => e = .returned (.float .f32 (sideN a b p)) ∧ Dr w w' := by
  obtain ⟨d, hd⟩ : ∃ d, d = lessP b a := ⟨_, rfl⟩
  obtain ⟨e, he⟩ : ∃ e, e = lessP p a := ⟨_, rfl⟩
  have k1 := fun w => less_any b a w
  have k2 := fun w => less_any p a w
  rw [← hd] at k1
  rw [← he] at k2
  have K1 := Lib.hid k1
  have K2 := Lib.hid k2
  have S := Lib.hid (show sideN a b p = subB (mulB d.1 e.2) (mulB d.2 e.1) by unfold sideN; rw [← hd, ← he])
  clear k1 k2 hd he
  go_enter Tryz.func140, Tryz.ntmps140
  go_wp2_with (first
    | (go_at_call 42; (with_reducible refine (isPoint_any a.1 a.2 _).mono ?_); rintro e w' ⟨rfl, rfl⟩; simp only [ha])
    | (go_at_call 42; (with_reducible refine (isPoint_any b.1 b.2 _).mono ?_); rintro e w' ⟨rfl, rfl⟩; simp only [hb])
    | (go_at_call 42; (with_reducible refine (isPoint_any p.1 p.2 _).mono ?_); rintro e w' ⟨rfl, rfl⟩; simp only [hp])
    | (go_at_call 155; (with_reducible refine (K1.out _).mono ?_); rintro e w' ⟨rfl, n1, rfl⟩)
    | (go_at_call 155; (with_reducible refine (K2.out _).mono ?_); rintro e w' ⟨rfl, n2, rfl⟩)
    | (go_at_call 84; (with_reducible refine (times_any _ _ _).mono ?_); rintro e w' ⟨rfl, n3, rfl⟩)
    | (go_at_call 89; (with_reducible refine (diff_any _ _ _).mono ?_); rintro e w' ⟨rfl, n4, rfl⟩))
  go_ret
  exact ⟨by rw [S.out]; rfl, Dr.drewN _ _⟩
theorem sideOf_q (a b p : Pt) (w : World) (ha : pointB a.1 a.2 = true) (hb : pointB b.1 b.2 = true) (hp : pointB p.1 p.2 = true) :
    Calls Tryz.prog 140 #[.complex .f32 a.1 a.2, .complex .f32 b.1 b.2, .complex .f32 p.1 p.2] w fun e w' => e = .returned (.float .f32 (sideN a b p)) ∧ ∃ m, w' = w.drewN m := (sideOf_yes a b p w ha hb hp).mono (fun _ _ ⟨h, m, e⟩ => ⟨h, m, e.symm⟩)
set_option maxHeartbeats 8000000 in
theorem lies_yes (a c d : Pt) (r g l q : Nat) (p : Pt) (w : World) (h : okSh (a, c, d, (r, g, l), q) = true) (hp : pointB p.1 p.2 = true) :
    Calls Tryz.prog 112 #[.agg #[.complex .f32 a.1 a.2, .complex .f32 c.1 c.2, .complex .f32 d.1 d.2, .float .f32 r, .float .f32 g, .float .f32 l, .float .f32 q], .complex .f32 p.1 p.2] w fun e w' => e = .returned (.bool (liesB (a, c, d, (r, g, l), q) p)) ∧ Below w.heap.size w w' := by
  obtain ⟨h1, h2, h3, h4, h5⟩ := okSh_parts h
  dsimp only at h1 h2 h3 h4 h5
  obtain ⟨x, hx⟩ : ∃ x, x = sideN a c p := ⟨_, rfl⟩
  obtain ⟨y, hy⟩ : ∃ y, y = sideN c d p := ⟨_, rfl⟩
  obtain ⟨z, hz⟩ : ∃ z, z = sideN d a p := ⟨_, rfl⟩
  have k1 := fun w => sideOf_q a c p w h1 h2 hp
  have k2 := fun w => sideOf_q c d p w h2 h3 hp
  have k3 := fun w => sideOf_q d a p w h3 h1 hp
  rw [← hx] at k1
  rw [← hy] at k2
  rw [← hz] at k3
  have K1 := Lib.hid k1
  have K2 := Lib.hid k2
  have K3 := Lib.hid k3
  have L := Lib.hid (show liesB (a, c, d, (r, g, l), q) p = ((geB x 0 && (geB y 0 && geB z 0)) || (leB x 0 && (leB y 0 && leB z 0))) by unfold liesB; rw [hx, hy, hz])
  clear k1 k2 k3 hx hy hz h h1 h2 h3 h4 h5 hp
  go_enter Tryz.func112, Tryz.ntmps112
  go_wp2_with fail
  obtain ⟨W, hWe⟩ : ∃ W, W = w.alloc (Obj.cells #[.complex .f32 a.1 a.2, .complex .f32 c.1 c.2, .complex .f32 d.1 d.2, .float .f32 r, .float .f32 g, .float .f32 l, .float .f32 q] 36) := ⟨_, rfl⟩
  have hW : Below w.heap.size w W := by rw [hWe]; (repeat (first | with_reducible assumption | exact Below.refl _ _ | (refine Below.setCell ?_ (by first | exact Nat.le_refl _ | (simp; done) | omega | (simp; omega)) _) | (refine below_drewN ?_ _) | (refine Below.drew ?_) | (refine Below.alloc ?_ (by first | exact Nat.le_refl _ | (simp; done) | omega | (simp; omega)) _) | (refine then_ ?_ (by with_reducible assumption)) | assumption | (refine then_ ?_ (by assumption))))
  have c0 : W.cell? ⟨w.heap.size, 0, none⟩ = some (.complex .f32 a.1 a.2) := by rw [hWe]; simp [go_sem]
  have c1 : W.cell? ⟨w.heap.size, 1, none⟩ = some (.complex .f32 c.1 c.2) := by rw [hWe]; simp [go_sem]
  have c2 : W.cell? ⟨w.heap.size, 2, none⟩ = some (.complex .f32 d.1 d.2) := by rw [hWe]; simp [go_sem]
  rw [← hWe]
  clear hWe
  go_quiet (first
    | (go_at_call 140; with_reducible exact Calls.quiet_of (K1.out _))
    | (go_at_call 140; with_reducible exact Calls.quiet_of (K2.out _))
    | (go_at_call 140; with_reducible exact Calls.quiet_of (K3.out _)))
  have B1 := below_drewN hW nq
  have e1 : (FloatKind.f32.format.order x 0 == some .gt || FloatKind.f32.format.order x 0 == some .eq) = geB x 0 := rfl
  have e2 : (FloatKind.f32.format.order y 0 == some .gt || FloatKind.f32.format.order y 0 == some .eq) = geB y 0 := rfl
  have e3 : (FloatKind.f32.format.order z 0 == some .gt || FloatKind.f32.format.order z 0 == some .eq) = geB z 0 := rfl
  have e4 : (FloatKind.f32.format.order x 0 == some .lt || FloatKind.f32.format.order x 0 == some .eq) = leB x 0 := rfl
  have e5 : (FloatKind.f32.format.order y 0 == some .lt || FloatKind.f32.format.order y 0 == some .eq) = leB y 0 := rfl
  have e6 : (FloatKind.f32.format.order z 0 == some .lt || FloatKind.f32.format.order z 0 == some .eq) = leB z 0 := rfl
  clear hW c0 c1 c2
  generalize geB x 0 = gx at e1 L
  generalize geB y 0 = gy at e2 L
  generalize geB z 0 = gz at e3 L
  generalize leB x 0 = lx at e4 L
  generalize leB y 0 = ly at e5 L
  generalize leB z 0 = lz at e6 L
  cases gx <;> cases gy <;> cases gz <;> cases lx <;> cases ly <;> cases lz <;> (go_wp2; go_ret; exact ⟨by rw [L.out]; rfl, B1⟩)
end Go.Proofs.YthlphmojldbpkaaGreat

/- What the specification's l6Do answers. No program. -/
namespace Go.Proofs.YthlphmojldbpkaaGreat
open Go.RowKit

def SHap (s : Shw) (e : Ev) (base : Nat) (O : Nat → Prop) (x : Nat) (r : Ending) (w' : World) : Prop :=
  ∃ (t : Shw) (A B L : Option Addr) (c d q : Nat), r = .returned (.tuple #[.agg #[.int .i64 t.sz, .float .f32 t.st, .float .f32 t.li.1, .float .f32 t.li.2.1, .float .f32 t.li.2.2, .slice A t.sh.length c, .int .i64 t.mir, .complex .f32 t.gr.1 t.gr.2, .float .f32 t.loss, .slice B t.bs.length d, .int .i64 t.tk, .slice L t.log.length q], .bool (hap s e).isSome]) ∧ OwnS w' base t A B L c d q ∧ InS O x t A B L c d q ∧ t.log.length = s.log.length ∧ (∀ u, hap s e = some u → t = u)
theorem sHap_mk {s t : Shw} {e : Ev} {base x : Nat} {O : Nat → Prop} {v : Value} {b : Bool} {w' : World} {A B L : Option Addr} {c d q : Nat} (own : OwnS w' base t A B L c d q) (hin : InS O x t A B L c d q)
    (hv : v = .tuple #[.agg #[.int .i64 t.sz, .float .f32 t.st, .float .f32 t.li.1, .float .f32 t.li.2.1, .float .f32 t.li.2.2, .slice A t.sh.length c, .int .i64 t.mir, .complex .f32 t.gr.1 t.gr.2, .float .f32 t.loss, .slice B t.bs.length d, .int .i64 t.tk, .slice L t.log.length q], .bool b]) (hb : b = (hap s e).isSome) (hl : t.log.length = s.log.length) (ht : ∀ u, hap s e = some u → t = u) : SHap s e base O x (.returned v) w' :=
  ⟨t, A, B, L, c, d, q, by rw [hv, hb], own, hin, hl, ht⟩
theorem sHap_yes {s t : Shw} {e : Ev} {base x : Nat} {O : Nat → Prop} {v : Value} {w' : World} {A B L : Option Addr} {c d q : Nat} (own : OwnS w' base t A B L c d q) (hin : InS O x t A B L c d q)
    (hv : v = .tuple #[.agg #[.int .i64 t.sz, .float .f32 t.st, .float .f32 t.li.1, .float .f32 t.li.2.1, .float .f32 t.li.2.2, .slice A t.sh.length c, .int .i64 t.mir, .complex .f32 t.gr.1 t.gr.2, .float .f32 t.loss, .slice B t.bs.length d, .int .i64 t.tk, .slice L t.log.length q], .bool true]) (hl : t.log.length = s.log.length) (ht : hap s e = some t) : SHap s e base O x (.returned v) w' :=
  sHap_mk own hin hv (by rw [ht]; rfl) hl (fun u hu => by rw [ht] at hu; injection hu)
theorem sHap_no {s t : Shw} {e : Ev} {base x : Nat} {O : Nat → Prop} {v : Value} {w' : World} {A B L : Option Addr} {c d q : Nat} (own : OwnS w' base t A B L c d q) (hin : InS O x t A B L c d q)
    (hv : v = .tuple #[.agg #[.int .i64 t.sz, .float .f32 t.st, .float .f32 t.li.1, .float .f32 t.li.2.1, .float .f32 t.li.2.2, .slice A t.sh.length c, .int .i64 t.mir, .complex .f32 t.gr.1 t.gr.2, .float .f32 t.loss, .slice B t.bs.length d, .int .i64 t.tk, .slice L t.log.length q], .bool false]) (hl : t.log.length = s.log.length) (ht : hap s e = none) : SHap s e base O x (.returned v) w' :=
  sHap_mk own hin hv (by rw [ht]; rfl) hl (fun u hu => by rw [ht] at hu; cases hu)
end Go.Proofs.YthlphmojldbpkaaGreat

/- l6Do: the specification's, a push. -/
namespace Go.Proofs.YthlphmojldbpkaaGreat
open Go.RowKit
attribute [local go_sem] run_store_float run_store_complex



set_option maxRecDepth 100000 in
set_option maxHeartbeats 4000000 in
theorem sDo_push (s : Shw) (e : Ev) (i : Nat) (zz : Pt) (he : e = .push (i : Int) zz) (hi : i < s.bs.length) (hm : s.bs.length ≤ 1000) (A B L : Option Addr) (c d q base : Nat) (w : World) (hb : base ≤ w.heap.size) (own : OwnS w base s A B L c d q) :
    Calls Tryz.prog 100 #[.agg #[.int .i64 s.sz, .float .f32 s.st, .float .f32 s.li.1, .float .f32 s.li.2.1, .float .f32 s.li.2.2, .slice A s.sh.length c, .int .i64 s.mir, .complex .f32 s.gr.1 s.gr.2, .float .f32 s.loss, .slice B s.bs.length d, .int .i64 s.tk, .slice L s.log.length q], .agg #[.int .i64 e.k, .int .i64 e.n, .complex .f32 e.z.1 e.z.2, .complex .f32 e.s.1.1 e.s.1.2, .complex .f32 e.s.2.1.1 e.s.2.1.2, .complex .f32 e.s.2.2.1.1 e.s.2.2.1.2, .float .f32 e.s.2.2.2.1.1, .float .f32 e.s.2.2.2.1.2.1, .float .f32 e.s.2.2.2.1.2.2, .float .f32 e.s.2.2.2.2, .float .f32 e.c.1, .float .f32 e.c.2.1, .float .f32 e.c.2.2]] w fun r w' => SHap s e base (OwnB s A B L c d q) w.heap.size r w' ∧ BelF base (OwnB s A B L c d q) w w' := by
  have k1 : (e.k == 1) = false := by rw [he]; rfl
  have k2 : (e.k == 2) = false := by rw [he]; rfl
  have k3 : (e.k == 3) = false := by rw [he]; rfl
  have k4 : (e.k == 4) = false := by rw [he]; rfl
  have k5 : (e.k == 5) = false := by rw [he]; rfl
  have k6 : (e.k == 6) = true := by rw [he]; rfl
  have en : e.n = (i : Int) := by rw [he]; rfl
  have hii : (i : Int) < (s.bs.length : Int) := by omega
  have hi0 : (0 : Int) ≤ (i : Int) := by omega
  have hge : decide ((s.bs.length : Int) ≤ (i : Int)) = false := by simp; omega
  have EN := Lib.hid en
  clear en
  have HE := Lib.hid he
  clear he
  have OWN := Lib.hid own
  clear own
  go_enter Tryz.func100, Tryz.ntmps100
  go_upto_region 1 with fail
  have h := hs_new e hb OWN.out #[.int .i64 s.sz, .float .f32 s.st, .float .f32 s.li.1, .float .f32 s.li.2.1, .float .f32 s.li.2.2, .slice A s.sh.length c, .int .i64 s.mir, .complex .f32 s.gr.1 s.gr.2, .float .f32 s.loss, .slice B s.bs.length d, .int .i64 s.tk, .slice L s.log.length q] #[.int .i64 0, .float .f32 0, .float .f32 0, .float .f32 0, .float .f32 0, .slice none 0 0, .int .i64 0, .complex .f32 0 0, .float .f32 0, .slice none 0 0, .int .i64 0, .slice none 0 0] 34 38 34 rfl rfl #[.int .i64 e.k, .int .i64 e.n, .complex .f32 e.z.1 e.z.2, .complex .f32 e.s.1.1 e.s.1.2, .complex .f32 e.s.2.1.1 e.s.2.1.2, .complex .f32 e.s.2.2.1.1 e.s.2.2.1.2, .float .f32 e.s.2.2.2.1.1, .float .f32 e.s.2.2.2.1.2.1, .float .f32 e.s.2.2.2.1.2.2, .float .f32 e.s.2.2.2.2, .float .f32 e.c.1, .float .f32 e.c.2.1, .float .f32 e.c.2.2] rfl
  obtain ⟨W, hWe⟩ : ∃ W, W = ((w.alloc (Obj.cells #[.int .i64 s.sz, .float .f32 s.st, .float .f32 s.li.1, .float .f32 s.li.2.1, .float .f32 s.li.2.2, .slice A s.sh.length c, .int .i64 s.mir, .complex .f32 s.gr.1 s.gr.2, .float .f32 s.loss, .slice B s.bs.length d, .int .i64 s.tk, .slice L s.log.length q] 34)).alloc (Obj.cells #[.int .i64 e.k, .int .i64 e.n, .complex .f32 e.z.1 e.z.2, .complex .f32 e.s.1.1 e.s.1.2, .complex .f32 e.s.2.1.1 e.s.2.1.2, .complex .f32 e.s.2.2.1.1 e.s.2.2.1.2, .float .f32 e.s.2.2.2.1.1, .float .f32 e.s.2.2.2.1.2.1, .float .f32 e.s.2.2.2.1.2.2, .float .f32 e.s.2.2.2.2, .float .f32 e.c.1, .float .f32 e.c.2.1, .float .f32 e.c.2.2] 38)).alloc (Obj.cells #[.int .i64 0, .float .f32 0, .float .f32 0, .float .f32 0, .float .f32 0, .slice none 0 0, .int .i64 0, .complex .f32 0 0, .float .f32 0, .slice none 0 0, .int .i64 0, .slice none 0 0] 34) := ⟨_, rfl⟩
  rw [← hWe] at h
  rw [← hWe]
  clear hWe hb OWN
  have lx := h.lt
  have a0 := h.cx 0 _ rfl; have a1 := h.cx 1 _ rfl; have a2 := h.cx 2 _ rfl; have a3 := h.cx 3 _ rfl; have a4 := h.cx 4 _ rfl; have a5 := h.cx 5 _ rfl; have a6 := h.cx 6 _ rfl; have a7 := h.cx 7 _ rfl; have a8 := h.cx 8 _ rfl; have a9 := h.cx 9 _ rfl; have a10 := h.cx 10 _ rfl; have a11 := h.cx 11 _ rfl
  have y0 := h.cy 0 _ rfl; have y1 := h.cy 1 _ rfl; have y2 := h.cy 2 _ rfl; have y3 := h.cy 3 _ rfl; have y4 := h.cy 4 _ rfl; have y5 := h.cy 5 _ rfl; have y6 := h.cy 6 _ rfl; have y7 := h.cy 7 _ rfl; have y8 := h.cy 8 _ rfl; have y9 := h.cy 9 _ rfl; have y10 := h.cy 10 _ rfl; have y11 := h.cy 11 _ rfl; have y12 := h.cy 12 _ rfl
  rw [EN.out] at y1
  obtain ⟨bb, off, a, v, hB, hbl, hx, x0, x1⟩ := (h.own.rd.2.1).bd hi
  obtain ⟨g, hB', hmd, hdm⟩ := owns_slice_at h.own.2.1 (by omega)
  rw [hB] at hB'
  injection hB' with hB'
  injection hB' with hB1 hB2
  subst hB1 hB2 hB
  rw [Nat.zero_add] at x0 x1
  have K1 := Lib.hid (fun w => specPlus_any v e.z w)
  have fB := h.own.2.1.frozenAt (i * 2 + 1)
  go_upto_region 22 with fail
  have lx0 : w.heap.size < W.heap.size := by omega
  have lx1 : w.heap.size + 1 < W.heap.size := by omega
  refine wp_region_T (fun v => ∀ b o, b < W.heap.size → v.cell? ⟨b, o, none⟩ = W.cell? ⟨b, o, none⟩) (fun j => decide (14 ≤ j)) (by kernel_rfl) (fun _ _ _ => rfl) (fun hHeld => ?_)
  refine wpAnyT_take (i := 0) (v := .slice (some ⟨bb, 0, none⟩) s.bs.length d) rfl (by kernel_rfl) (by kernel_rfl) (by kernel_rfl) (by kernel_rfl) (fun _ _ _ h => h) (Or.inl ⟨by rfl, (by intro wz hSz; (try dsimp only at hSz); go_simp)⟩) hHeld ?_; try simp only [Act.put, List.getElem_toArray, List.getElem_cons_zero, List.setIfInBounds_toArray, List.set_cons_zero, List.set_cons_succ]; refine wpAnyT_take (i := 1) (v := .pointer (some ⟨w.heap.size + 1, 1, none⟩)) rfl (by kernel_rfl) (by kernel_rfl) (by kernel_rfl) (by kernel_rfl) (fun _ _ _ h => h) (Or.inl ⟨by rfl, (by intro wz hSz; (try dsimp only at hSz); go_simp)⟩) hHeld ?_; try simp only [Act.put, List.getElem_toArray, List.getElem_cons_succ, List.getElem_cons_zero, List.setIfInBounds_toArray, List.set_cons_zero, List.set_cons_succ]; refine wpAnyT_take (i := 2) (v := .int .i64 (i : Int)) rfl (by kernel_rfl) (by kernel_rfl) (by kernel_rfl) (by kernel_rfl) (fun _ _ _ h => h) (Or.inl ⟨by rfl, (by intro wz hSz; (try dsimp only at hSz); go_simp)⟩) hHeld ?_; try simp only [Act.put, List.getElem_toArray, List.getElem_cons_succ, List.getElem_cons_zero, List.setIfInBounds_toArray, List.set_cons_zero, List.set_cons_succ]; refine wpAnyT_take (i := 3) (v := .slice (some ⟨bb, 0, none⟩) s.bs.length d) rfl (by kernel_rfl) (by kernel_rfl) (by kernel_rfl) (by kernel_rfl) (fun _ _ _ h => h) (Or.inl ⟨by rfl, (by intro wz hSz; (try dsimp only at hSz); go_simp)⟩) hHeld ?_; try simp only [Act.put, List.getElem_toArray, List.getElem_cons_succ, List.getElem_cons_zero, List.setIfInBounds_toArray, List.set_cons_zero, List.set_cons_succ]; refine wpAnyT_take (i := 4) (v := .pointer (some ⟨w.heap.size + 1, 1, none⟩)) rfl (by kernel_rfl) (by kernel_rfl) (by kernel_rfl) (by kernel_rfl) (fun _ _ _ h => h) (Or.inl ⟨by rfl, (by intro wz hSz; (try dsimp only at hSz); go_simp)⟩) hHeld ?_; try simp only [Act.put, List.getElem_toArray, List.getElem_cons_succ, List.getElem_cons_zero, List.setIfInBounds_toArray, List.set_cons_zero, List.set_cons_succ]; refine wpAnyT_take (i := 5) (v := .int .i64 (i : Int)) rfl (by kernel_rfl) (by kernel_rfl) (by kernel_rfl) (by kernel_rfl) (fun _ _ _ h => h) (Or.inl ⟨by rfl, (by intro wz hSz; (try dsimp only at hSz); go_simp)⟩) hHeld ?_; try simp only [Act.put, List.getElem_toArray, List.getElem_cons_succ, List.getElem_cons_zero, List.setIfInBounds_toArray, List.set_cons_zero, List.set_cons_succ]; refine wpAnyT_take (i := 6) (v := .pointer (some ⟨bb, i * 2, none⟩)) rfl (by kernel_rfl) (by kernel_rfl) (by kernel_rfl) (by kernel_rfl) (fun _ _ _ h => h) (Or.inl ⟨by rfl, (by intro wz hSz; (try dsimp only at hSz); go_simp)⟩) hHeld ?_; try simp only [Act.put, List.getElem_toArray, List.getElem_cons_succ, List.getElem_cons_zero, List.setIfInBounds_toArray, List.set_cons_zero, List.set_cons_succ]; refine wpAnyT_take (i := 7) (v := .pointer (some ⟨bb, i * 2 + 1, none⟩)) rfl (by kernel_rfl) (by kernel_rfl) (by kernel_rfl) (by kernel_rfl) (fun _ _ _ h => h) (Or.inl ⟨by rfl, (by intro wz hSz; (try dsimp only at hSz); go_simp)⟩) hHeld ?_; try simp only [Act.put, List.getElem_toArray, List.getElem_cons_succ, List.getElem_cons_zero, List.setIfInBounds_toArray, List.set_cons_zero, List.set_cons_succ]; refine wpAnyT_take (i := 8) (v := .complex .f32 v.1 v.2) rfl (by kernel_rfl) (by kernel_rfl) (by kernel_rfl) (by kernel_rfl) (fun _ _ _ h => h) (Or.inl ⟨by rfl, (by intro wz hSz; (try dsimp only at hSz); go_simp)⟩) hHeld ?_; try simp only [Act.put, List.getElem_toArray, List.getElem_cons_succ, List.getElem_cons_zero, List.setIfInBounds_toArray, List.set_cons_zero, List.set_cons_succ]; refine wpAnyT_take (i := 9) (v := .pointer (some ⟨w.heap.size + 1, 2, none⟩)) rfl (by kernel_rfl) (by kernel_rfl) (by kernel_rfl) (by kernel_rfl) (fun _ _ _ h => h) (Or.inl ⟨by rfl, (by intro wz hSz; (try dsimp only at hSz); go_simp)⟩) hHeld ?_; try simp only [Act.put, List.getElem_toArray, List.getElem_cons_succ, List.getElem_cons_zero, List.setIfInBounds_toArray, List.set_cons_zero, List.set_cons_succ]; refine wpAnyT_take (i := 10) (v := .complex .f32 e.z.1 e.z.2) rfl (by kernel_rfl) (by kernel_rfl) (by kernel_rfl) (by kernel_rfl) (fun _ _ _ h => h) (Or.inl ⟨by rfl, (by intro wz hSz; (try dsimp only at hSz); go_simp)⟩) hHeld ?_; try simp only [Act.put, List.getElem_toArray, List.getElem_cons_succ, List.getElem_cons_zero, List.setIfInBounds_toArray, List.set_cons_zero, List.set_cons_succ]
  refine wpAnyT_one (i := 11) (by kernel_rfl) rfl (fun K hK => ?_)
  go_simp
  go_at_call 102
  (with_reducible refine (K1.out _).mono ?_)
  rintro r w' ⟨rfl, n1, rfl⟩
  go_wp2_with fail
  refine hK.out _ _ (fun _ b o h => rfl) (fun hH => ?_)
  have hHeld := hH rfl
  clear hK K hH
  try simp only [Act.put, List.setIfInBounds_toArray, List.set_cons_zero, List.set_cons_succ]
  refine wpAnyT_take (i := 12) (v := .pointer (some ⟨bb, i * 2, none⟩)) rfl (by kernel_rfl) (by kernel_rfl) (by kernel_rfl) (by kernel_rfl) (fun _ _ _ h => h) (Or.inl ⟨by rfl, (by intro wz hSz; (try dsimp only at hSz); go_simp)⟩) hHeld ?_; try simp only [Act.put, List.getElem_toArray, List.getElem_cons_succ, List.getElem_cons_zero, List.setIfInBounds_toArray, List.set_cons_zero, List.set_cons_succ]; refine wpAnyT_take (i := 13) (v := .pointer (some ⟨bb, i * 2 + 1, none⟩)) rfl (by kernel_rfl) (by kernel_rfl) (by kernel_rfl) (by kernel_rfl) (fun _ _ _ h => h) (Or.inl ⟨by rfl, (by intro wz hSz; (try dsimp only at hSz); go_simp)⟩) hHeld ?_; try simp only [Act.put, List.getElem_toArray, List.getElem_cons_succ, List.getElem_cons_zero, List.setIfInBounds_toArray, List.set_cons_zero, List.set_cons_succ]
  refine wpAnyT_one (i := 14) (by kernel_rfl) rfl (fun K hK => ?_)
  go_simp
  refine hK.out _ _ (fun e => by cases e) (fun hH => ?_)
  clear hK K hH
  try simp only [Act.put, List.setIfInBounds_toArray, List.set_cons_zero, List.set_cons_succ]
  refine wpAnyT_end (by kernel_rfl) ?_ _
  go_upto_region 23 with fail
  clear a0 a1 a2 a3 a4 a5 a6 a7 a8 a9 a10 a11 y0 y1 y2 y3 y4 y5 y6 y7 y8 y9 y10 y11 y12 x0 x1 fB hHeld
  replace h := (h.drew_ (1 + n1)).setV hx (plusP v e.z)
  obtain ⟨U, hUe⟩ : ∃ U, U = ((W.drewN (1 + n1)).setCell ⟨bb, i * 2 + 1, none⟩ (.complex .f32 (plusP v e.z).1 (plusP v e.z).2)) := ⟨_, rfl⟩
  rw [← hUe] at h
  rw [← hUe]
  clear hUe
  have HX := Lib.hid hx
  clear hx K1 lx lx0 lx1 hbl
  have ht : hap s e = some { s with bs := s.bs.set i (a, plusP v e.z) } := by
    rw [HE.out]
    simp only [hap]
    rw [if_pos hii, Int.toNat_natCast, modify_set _ HX.out]
    rfl
  have HT := Lib.hid ht
  clear ht
  have a0 := h.cx 0 _ rfl; have a1 := h.cx 1 _ rfl; have a2 := h.cx 2 _ rfl; have a3 := h.cx 3 _ rfl; have a4 := h.cx 4 _ rfl; have a5 := h.cx 5 _ rfl; have a6 := h.cx 6 _ rfl; have a7 := h.cx 7 _ rfl; have a8 := h.cx 8 _ rfl; have a9 := h.cx 9 _ rfl; have a10 := h.cx 10 _ rfl; have a11 := h.cx 11 _ rfl
  have o0 := h.co 0 _ rfl; have o1 := h.co 1 _ rfl; have o2 := h.co 2 _ rfl; have o3 := h.co 3 _ rfl; have o4 := h.co 4 _ rfl; have o5 := h.co 5 _ rfl; have o6 := h.co 6 _ rfl; have o7 := h.co 7 _ rfl; have o8 := h.co 8 _ rfl; have o9 := h.co 9 _ rfl; have o10 := h.co 10 _ rfl; have o11 := h.co 11 _ rfl
  have fo : FA _ (w.heap.size + 1 + 1) := h.fo
  have g0 := fo 0; have g1 := fo 1; have g2 := fo 2; have g3 := fo 3; have g4 := fo 4; have g5 := fo 5; have g6 := fo 6; have g7 := fo 7; have g8 := fo 8; have g9 := fo 9; have g10 := fo 10; have g11 := fo 11
  have lx := h.lt
  go_wp2
  have hz := ((((((((((((h.puto 0 (.int .i64 (({ s with bs := s.bs.set i (a, plusP v e.z) } : Shw)).sz)).puto 1 (.float .f32 (({ s with bs := s.bs.set i (a, plusP v e.z) } : Shw)).st)).puto 2 (.float .f32 (({ s with bs := s.bs.set i (a, plusP v e.z) } : Shw)).li.1)).puto 3 (.float .f32 (({ s with bs := s.bs.set i (a, plusP v e.z) } : Shw)).li.2.1)).puto 4 (.float .f32 (({ s with bs := s.bs.set i (a, plusP v e.z) } : Shw)).li.2.2)).puto 5 (.slice A s.sh.length c)).puto 6 (.int .i64 (({ s with bs := s.bs.set i (a, plusP v e.z) } : Shw)).mir)).puto 7 (.complex .f32 (({ s with bs := s.bs.set i (a, plusP v e.z) } : Shw)).gr.1 (({ s with bs := s.bs.set i (a, plusP v e.z) } : Shw)).gr.2)).puto 8 (.float .f32 (({ s with bs := s.bs.set i (a, plusP v e.z) } : Shw)).loss)).puto 9 (.slice (some ⟨bb, 0, none⟩) s.bs.length d)).puto 10 (.int .i64 (({ s with bs := s.bs.set i (a, plusP v e.z) } : Shw)).tk)).puto 11 (.slice L s.log.length q))
  have co : CA _ (w.heap.size + 1 + 1) _ := hz.co
  have own := hz.own
  have bel := hz.bel
  have hin := And.intro hz.iA (And.intro hz.iB hz.iL)
  clear hz
  have z0 := co 0 _ rfl; have z1 := co 1 _ rfl; have z2 := co 2 _ rfl; have z3 := co 3 _ rfl; have z4 := co 4 _ rfl; have z5 := co 5 _ rfl; have z6 := co 6 _ rfl; have z7 := co 7 _ rfl; have z8 := co 8 _ rfl; have z9 := co 9 _ rfl; have z10 := co 10 _ rfl; have z11 := co 11 _ rfl
  refine bodyPost_ret (v := .tuple #[.agg #[.int .i64 (({ s with bs := s.bs.set i (a, plusP v e.z) } : Shw)).sz, .float .f32 (({ s with bs := s.bs.set i (a, plusP v e.z) } : Shw)).st, .float .f32 (({ s with bs := s.bs.set i (a, plusP v e.z) } : Shw)).li.1, .float .f32 (({ s with bs := s.bs.set i (a, plusP v e.z) } : Shw)).li.2.1, .float .f32 (({ s with bs := s.bs.set i (a, plusP v e.z) } : Shw)).li.2.2, .slice A s.sh.length c, .int .i64 (({ s with bs := s.bs.set i (a, plusP v e.z) } : Shw)).mir, .complex .f32 (({ s with bs := s.bs.set i (a, plusP v e.z) } : Shw)).gr.1 (({ s with bs := s.bs.set i (a, plusP v e.z) } : Shw)).gr.2, .float .f32 (({ s with bs := s.bs.set i (a, plusP v e.z) } : Shw)).loss, .slice (some ⟨bb, 0, none⟩) s.bs.length d, .int .i64 (({ s with bs := s.bs.set i (a, plusP v e.z) } : Shw)).tk, .slice L s.log.length q], .bool true]) (by simp [results, Tryz.results100, go_sem, z0, z1, z2, z3, z4, z5, z6, z7, z8, z9, z10, z11]) rfl ⟨?_, bel⟩
  exact sHap_yes (t := { s with bs := s.bs.set i (a, plusP v e.z) }) own hin (by simp) rfl HT.out
end Go.Proofs.YthlphmojldbpkaaGreat
