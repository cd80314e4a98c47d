/- Take · DrawLs · DrawTk · ActSh · Same · SymP -/
import Derived.Test.YthlphmojldbpkaaGreatSeen
import Derived.Test.YthlphmojldbpkaaGreatM37
import Derived.Test.YthlphmojldbpkaaGreatM3
import Derived.Test.YthlphmojldbpkaaGreatM36
import Derived.Deep.AppendLies
import Derived.Test.YthlphmojldbpkaaGreatM6
import Derived.Test.YthlphmojldbpkaaGreatM16
import Derived.Maps.AppendAt
import Derived.Deep.RegionLaw
import Derived.Deep.CutRange
import Derived.Test.YthlphmojldbpkaaGreatMix
import Derived.Deep.RegionHeld3
import Derived.Test.YthlphmojldbpkaaGreatM15
import Derived.Test.YthlphmojldbpkaaGreatM1

/- TakePicture: the program's, of valid arguments. -/
namespace Go.Proofs.YthlphmojldbpkaaGreat
open Go.RowKit
attribute [local go_sem] run_store_float run_store_complex

/-- where a cell's middle lies, and what is seen there -/
def spotP (st : Nat) (s i : Int) : Pt := (mulB (fl (ptI s i).1) st, mulB (fl (ptI s i).2) st)
def takeC (kind s : Int) (st : Nat) (ls : List Sh) (light : Col) (i : Nat) : Col := seenL ls (foldP kind (spotP st s i)).1 light
def takeUp (kind s : Int) (st : Nat) (ls : List Sh) (light : Col) (k : Nat) : List Col := (List.range k).map (takeC kind s st ls light)
theorem takeUp_len (kind s : Int) (st : Nat) (ls : List Sh) (light : Col) (k : Nat) : (takeUp kind s st ls light k).length = k := by simp [takeUp]
theorem takeUp_succ (kind s : Int) (st : Nat) (ls : List Sh) (light : Col) (k : Nat) : takeUp kind s st ls light (k + 1) = takeUp kind s st ls light k ++ [takeC kind s st ls light k] := by
  unfold takeUp
  rw [List.range_succ, List.map_append]
  rfl
theorem fold_point (kind : Int) (z : Pt) : pointB (foldP kind z).1.1 (foldP kind z).1.2 = true := by
  have h0 : pointB 0 0 = true := by decide +kernel
  unfold foldP
  split
  · unfold foldG
    split
    · exact actP_point _ _ _ _
    · exact h0
  · exact h0
set_option maxRecDepth 100000 in
set_option maxHeartbeats 8000000 in
theorem takePicture_yes (kind s : Int) (st : Nat) (A : Option Addr) (n c : Nat) (ls : List Sh) (r g l N : Nat) (w : World) (hk : inB kind 0 3 = true) (hs : inB s 1 8 = true) (hst : stpB st = true) (hn : n ≤ 12) (hok : ls.all okSh = true) (hc : colB (r, g, l) = true) (hN : s * s = (N : Int)) (ha : Rd shC 7 w w.heap.size A n ls) :
    Calls Tryz.prog 38 #[.int .i64 kind, .slice A n c, .int .i64 s, .float .f32 st, .agg #[.float .f32 r, .float .f32 g, .float .f32 l]] w fun e w' => (∃ B d, e = .returned (.tuple #[.agg #[.int .i64 s, .slice B N d], .bool true]) ∧ w'.ownsRow w.heap.size 26 3 (.slice B N d) N (flat colC (takeUp kind s st ls (r, g, l) N))) ∧ Below w.heap.size w w' := by
  obtain ⟨s1, s2⟩ := inB_true hs
  have hN64 : N ≤ 64 := by
    have b3 : s * s ≤ 8 * 8 := Int.mul_le_mul s2 s2 (by omega) (by omega)
    omega
  have KA := Lib.hid (fun w h => areShards_yes A n c ls w hn hok h)
  have KC := Lib.hid (fun w => isColour_any r g l w)
  rw [hc] at KC
  obtain ⟨i0, hi, hz0, hz1, hz2⟩ := info_parts infoCol
  go_enter Tryz.func38, Tryz.ntmps38
  go_wp2_with fail
  (with_reducible refine (isKind_any _ _).mono ?_)
  rw [hk]
  rintro e w' ⟨rfl, rfl⟩
  go_wp2_with fail
  obtain ⟨W, hWe⟩ : ∃ W, W = (w.alloc (Obj.cells #[.float .f32 r, .float .f32 g, .float .f32 l] 26)).alloc (Obj.cells #[.int .i64 0, .slice none 0 0] 47) := ⟨_, rfl⟩
  have hW : Below w.heap.size w W := by rw [hWe]; (repeat (first | with_reducible assumption | exact Below.refl _ _ | (refine Below.setCell ?_ (by first | exact Nat.le_refl _ | (simp; done) | omega | (simp; omega)) _) | (refine below_drewN ?_ _) | (refine Below.drew ?_) | (refine Below.alloc ?_ (by first | exact Nat.le_refl _ | (simp; done) | omega | (simp; omega)) _) | (refine then_ ?_ (by with_reducible assumption)) | assumption | (refine then_ ?_ (by assumption))))
  have zW : W.heap.size = w.heap.size + 2 := by rw [hWe]; simp
  have c0 : W.cell? ⟨w.heap.size, 0, none⟩ = some (.float .f32 r) := by rw [hWe]; simp [go_sem]
  have c1 : W.cell? ⟨w.heap.size, 1, none⟩ = some (.float .f32 g) := by rw [hWe]; simp [go_sem]
  have c2 : W.cell? ⟨w.heap.size, 2, none⟩ = some (.float .f32 l) := by rw [hWe]; simp [go_sem]
  have r0 : W.cell? ⟨w.heap.size + 1, 0, none⟩ = some (.int .i64 0) := by rw [hWe]; simp [go_sem]
  have r1 : W.cell? ⟨w.heap.size + 1, 1, none⟩ = some (.slice none 0 0) := by rw [hWe]; simp [go_sem]
  have rf : ∀ j, W.frozen? ⟨w.heap.size + 1, j, none⟩ = false := by intro j; rw [hWe]; simp [go_sem]
  rw [← hWe]
  clear hWe
  (with_reducible refine (KA.out _ (ha.step hW)).mono ?_)
  rintro e w1 ⟨rfl, hb1⟩
  have c0 := keepC c0 hb1
  have c1 := keepC c1 hb1
  have c2 := keepC c2 hb1
  have l0 : w.heap.size < w1.heap.size := by have := hb1.size; omega
  go_wp2_with fail
  (with_reducible refine (within_any s 1 8 _).mono ?_)
  rw [hs]
  rintro e w' ⟨rfl, rfl⟩
  go_wp2_with fail
  (with_reducible refine (isStep_any _ _).mono ?_)
  rw [hst]
  rintro e w' ⟨rfl, rfl⟩
  go_wp2_with fail
  (with_reducible refine (KC.out _).mono ?_)
  rintro e w2 ⟨rfl, hb2⟩
  have hb := then_ hb1 hb2
  have c0 := Lib.hid (keepC c0 hb2)
  have c1 := Lib.hid (keepC c1 hb2)
  have c2 := Lib.hid (keepC c2 hb2)
  have rf := Lib.hid (frB rf hb (show w.heap.size + 1 < W.heap.size by omega))
  have r0 := Lib.hid (keepC r0 hb)
  have r1 := Lib.hid (keepC r1 hb)
  have hW2 := then_ hW hb
  have z2 : w.heap.size + 2 ≤ w2.heap.size := by have := hb.size; omega
  clear hb1 hb2 hb hW zW
  go_upto_region 4 with fail
  obtain ⟨V, hVe⟩ : ∃ V, V = w2.alloc (Obj.cells #[.int .i64 s, .slice none 0 0] 47) := ⟨_, rfl⟩
  have hV : Below w2.heap.size w2 V := by rw [hVe]; (repeat (first | with_reducible assumption | exact Below.refl _ _ | (refine Below.setCell ?_ (by first | exact Nat.le_refl _ | (simp; done) | omega | (simp; omega)) _) | (refine below_drewN ?_ _) | (refine Below.drew ?_) | (refine Below.alloc ?_ (by first | exact Nat.le_refl _ | (simp; done) | omega | (simp; omega)) _) | (refine then_ ?_ (by with_reducible assumption)) | assumption | (refine then_ ?_ (by assumption))))
  have zV : w2.heap.size < V.heap.size := by rw [hVe]; simp
  have x0 : V.cell? ⟨w2.heap.size, 0, none⟩ = some (.int .i64 s) := by rw [hVe]; simp [go_sem]
  have x1 : V.cell? ⟨w2.heap.size, 1, none⟩ = some (.slice none 0 0) := by rw [hVe]; simp [go_sem]
  have xf : V.frozen? ⟨w2.heap.size, 1, none⟩ = false := by rw [hVe]; simp [go_sem]
  rw [← hVe]
  clear hVe
  have hmul : IntKind.i64.wrap (s * s) = (N : Int) := by rw [hN, IntKind.wrap_i64]; omega
  go_wp2_with fail
  go_loopw [48] (fun i wr => ∃ (k : Nat) (O : Option Addr) (C : Nat), k ≤ N ∧ i = .int .i64 k ∧ wr.cell? ⟨w2.heap.size, 0, none⟩ = some (.int .i64 s) ∧ wr.cell? ⟨w2.heap.size, 1, none⟩ = some (.slice O k C) ∧ wr.frozen? ⟨w2.heap.size, 1, none⟩ = false ∧ wr.ownsRow V.heap.size 26 3 (.slice O k C) k (flat colC (takeUp kind s st ls (r, g, l) k)) ∧ V.heap.size ≤ wr.heap.size ∧ Below w2.heap.size w2 wr) (fun i _ => N - (intOf i).toNat)
  case atStart => exact ⟨0, none, 0, Nat.zero_le _, rfl, x0, x1, xf, ⟨rfl, .inl ⟨rfl, rfl⟩⟩, Nat.le_refl _, hV⟩
  case round =>
    clear x0 x1 xf hV
    obtain ⟨k, O, C, hkN, rfl, x0, x1, xf, hown, hsz, hw⟩ := hrel
    have OW := Lib.hid hown
    have q0 := keepC c0.out hw
    have q1 := keepC c1.out hw
    have q2 := keepC c2.out hw
    have hWr := then_ hW2 hw
    have lx := World.block_lt_of_cell? _ _ x0
    have lq := World.block_lt_of_cell? _ _ q0
    dsimp only at lx lq
    clear hown
    by_cases hlt : k < N
    · have hki : (k : Int) < (N : Int) := by omega
      have hokc : okCell s k = true := by
        unfold okCell inB
        simp only [Bool.and_eq_true, decide_eq_true_eq]
        omega
      obtain ⟨z, hz⟩ : ∃ z, z = ptI s k := ⟨_, rfl⟩
      have kp := fun w => placeOf_ok s k w hokc
      obtain ⟨px, hpx⟩ : ∃ x, x = mulB (fl z.1) st := ⟨_, rfl⟩
      obtain ⟨py, hpy⟩ : ∃ x, x = mulB (fl z.2) st := ⟨_, rfl⟩
      obtain ⟨fx, hfx⟩ : ∃ x, x = fl z.1 := ⟨_, rfl⟩
      obtain ⟨fy, hfy⟩ : ∃ x, x = fl z.2 := ⟨_, rfl⟩
      rw [← hz, ← hfx, ← hfy] at kp
      have k1 := fun w => times_any fx st w
      have k2 := fun w => times_any fy st w
      rw [hfx, ← hpx] at k1
      rw [hfy, ← hpy] at k2
      rw [← hfx] at k1
      rw [← hfy] at k2
      have kf := fun w => foldPoint_any kind (px, py) w
      have hp := fold_point kind (px, py)
      have ht : takeC kind s st ls (r, g, l) k = seenL ls (foldP kind (px, py)).1 (r, g, l) := by unfold takeC spotP; rw [← hz, ← hpx, ← hpy]
      generalize foldP kind (px, py) = rr at kf hp ht
      obtain ⟨⟨a1, a2⟩, ⟨t, f⟩, ob⟩ := rr
      simp only [foldV] at kf
      dsimp only at hp ht
      have ks := fun w h => seenThrough_yes A n c ls (a1, a2) r g l w hn hok hp hc h
      rw [← ht] at ks
      have SU := Lib.hid (takeUp_succ kind s st ls (r, g, l) k)
      generalize takeC kind s st ls (r, g, l) k = cc at ks SU
      obtain ⟨u, v, y⟩ := cc
      dsimp only at ks
      have KP := Lib.hid kp
      have K1 := Lib.hid k1
      have K2 := Lib.hid k2
      have KF := Lib.hid kf
      have KS := Lib.hid ks
      clear kp k1 k2 kf ks hp ht hz hpx hpy hfx hfy hokc
      go_wp2_with fail
      (with_reducible refine (KP.out _).mono ?_)
      rintro e w' ⟨rfl, n1, rfl⟩
      go_wp2_with (first
        | (go_at_call 84; (with_reducible refine (K1.out _).mono ?_); rintro e w' ⟨rfl, n2, rfl⟩)
        | (go_at_call 84; (with_reducible refine (K2.out _).mono ?_); rintro e w' ⟨rfl, n3, rfl⟩)
        | (go_at_call 16; (with_reducible refine (KF.out _).mono ?_); rintro e w3 ⟨rfl, hb3⟩; have hB3 : Below wr.heap.size wr w3 := (by (repeat (first | with_reducible assumption | exact Below.refl _ _ | (refine Below.setCell ?_ (by first | exact Nat.le_refl _ | (simp; done) | omega | (simp; omega)) _) | (refine below_drewN ?_ _) | (refine Below.drew ?_) | (refine Below.alloc ?_ (by first | exact Nat.le_refl _ | (simp; done) | omega | (simp; omega)) _) | (refine then_ ?_ (by with_reducible assumption)) | assumption | (refine then_ ?_ (by assumption)))))))
      obtain ⟨X, hXe⟩ : ∃ X, X = w3.alloc (Obj.cells #[.int .i64 t, .bool f] 58) := ⟨_, rfl⟩
      have hX : Below wr.heap.size wr X := by rw [hXe]; exact hB3.alloc hB3.size _
      rw [← hXe]
      have x0 := keepC x0 hX
      have xf := keepF x1 xf hX
      have x1 := keepC x1 hX
      have q0 := keepC q0 hX
      have q1 := keepC q1 hX
      have q2 := keepC q2 hX
      have OX := Lib.hid (owns_below OW.out hX)
      have hwX := then_ hw hX
      have zX := hX.size
      have lxX : w2.heap.size < X.heap.size := by omega
      have lqX : w.heap.size < X.heap.size := by omega
      have raX := ha.step (then_ hWr hX)
      clear hXe hB3 hb3 OW
      go_region_law ((first
        | (go_simp; go_at_call 85; (with_reducible refine (KS.out _ ?_).mono ?_); exact raX.step (by (repeat (first | with_reducible assumption | exact Below.refl _ _ | (refine Below.setCell ?_ (by first | exact Nat.le_refl _ | (simp; done) | omega | (simp; omega)) _) | (refine below_drewN ?_ _) | (refine Below.drew ?_) | (refine Below.alloc ?_ (by first | exact Nat.le_refl _ | (simp; done) | omega | (simp; omega)) _) | (refine then_ ?_ (by with_reducible assumption)) | assumption | (refine then_ ?_ (by assumption))))); rintro e w5 ⟨rfl, hb5⟩; have hB5 : Below X.heap.size X w5 := (by (repeat (first | with_reducible assumption | exact Below.refl _ _ | (refine Below.setCell ?_ (by first | exact Nat.le_refl _ | (simp; done) | omega | (simp; omega)) _) | (refine below_drewN ?_ _) | (refine Below.drew ?_) | (refine Below.alloc ?_ (by first | exact Nat.le_refl _ | (simp; done) | omega | (simp; omega)) _) | (refine then_ ?_ (by with_reducible assumption)) | assumption | (refine then_ ?_ (by assumption))))); have y0 := keepC x0 hB5; have y1 := keepC x1 hB5; have yf := keepF x1 xf hB5; have OW5 := Lib.hid (owns_below OX.out hB5); have hz5 := hB5.size; have lz5 : w2.heap.size < w5.heap.size := (by omega); have hw5 := then_ hwX hB5)
        | (refine step_append_lies _ (by rfl) _ _ _ (by rfl) V.heap.size 26 i0 _ 3 12 Tryz.underlying45 hi hz0 hz1 hz2 rfl (by omega) _ _ _ (by rfl) (OW5.out.alloc _) ⟨w5.heap.size, 0, none⟩ 1 1 [.float .f32 u, .float .f32 v, .float .f32 y] (by rfl) (by rfl) (World.news_of_block (cs := #[.float .f32 u, .float .f32 v, .float .f32 y]) (t := 26) (fr := (0, 0)) (heap_alloc_new w5 _)) (by simp [Value.oneCell']) (by omega) (by unfold maxLen; omega) (by omega) (by simp; omega) (w5.heap.size + 1) (by simp) ?_; intro gg cap w6 hown6 hg6 hat6 hlt6; have hA := (show Below w5.heap.size w5 (w5.alloc (Obj.cells #[.float .f32 u, .float .f32 v, .float .f32 y] 26)) by (repeat (first | with_reducible assumption | exact Below.refl _ _ | (refine Below.setCell ?_ (by first | exact Nat.le_refl _ | (simp; done) | omega | (simp; omega)) _) | (refine below_drewN ?_ _) | (refine Below.drew ?_) | (refine Below.alloc ?_ (by first | exact Nat.le_refl _ | (simp; done) | omega | (simp; omega)) _) | (refine then_ ?_ (by with_reducible assumption)) | assumption | (refine then_ ?_ (by assumption))))); have u0 := keepG_lt (keepC y0 hA) (OW5.out.alloc _) hg6 zV; have u1 := keepG_lt (keepC y1 hA) (OW5.out.alloc _) hg6 zV; have uf := keepG_fr (keepF y1 yf hA) (OW5.out.alloc _) hg6 zV (by simp; omega); have hB6 : Below w2.heap.size w2 w6 := Below.grown (hw5.alloc hw5.size _) hg6 (by simp; omega) (fun j hj => (by have := (OW5.out.lt j hj).1; omega)); have OW6 := Lib.hid hown6; have hz6 := hg6.size; simp only [World.size_alloc] at hz6; clear hown6 hg6 hat6)))
      all_goals
        go_wp2
        go_roundw
        case rel =>
          refine ⟨k + 1, some ⟨gg, 0, none⟩, cap, by omega, by go_num, by simp [go_sem, u0], by simp [go_sem, u1], by simp [go_sem, uf], ?_, by simp; omega, by (repeat (first | with_reducible assumption | exact Below.refl _ _ | (refine Below.setCell ?_ (by first | exact Nat.le_refl _ | (simp; done) | omega | (simp; omega)) _) | (refine below_drewN ?_ _) | (refine Below.drew ?_) | (refine Below.alloc ?_ (by first | exact Nat.le_refl _ | (simp; done) | omega | (simp; omega)) _) | (refine then_ ?_ (by with_reducible assumption)) | assumption | (refine then_ ?_ (by assumption))))⟩
          rw [SU.out, flat_append]
          exact ownsRow_setCell_below OW6.out zV _
        case measure => simp [intOf]; omega
    · obtain rfl : k = N := by omega
      have r0 := keepC r0.out hw
      have r1' := keepC r1.out hw
      have f0 := (hw.frozen (p := ⟨w.heap.size + 1, 0, none⟩) (show w.heap.size + 1 < w2.heap.size by omega)).trans (rf.out 0)
      have f1 := (hw.frozen (p := ⟨w.heap.size + 1, 1, none⟩) (show w.heap.size + 1 < w2.heap.size by omega)).trans (rf.out 1)
      have lr := World.block_lt_of_cell? _ _ r0
      have l01 : w.heap.size ≤ w.heap.size + 1 := by omega
      dsimp only at lr
      go_wp2
      refine bodyPost_ret (v := .tuple #[.agg #[.int .i64 s, .slice O k C], .bool true]) (by simp [results, Tryz.results38, go_sem, r0, r1']) rfl ⟨⟨O, C, rfl, ?_⟩, (hWr.setCell l01 _).setCell l01 _⟩
      exact owns_mono (ownsRow_setCell_below (ownsRow_setCell_below OW.out (by show w.heap.size + 1 < _; omega) _) (by show w.heap.size + 1 < _; omega) _) (by omega)
end Go.Proofs.YthlphmojldbpkaaGreat

/- l3List: pieces of glass. -/
namespace Go.Proofs.YthlphmojldbpkaaGreat
open Go.RowKit
attribute [local go_sem] run_store_float run_store_complex

theorem infoSh : (Tryz.prog.info? 36).map (fun i => (i.zero, i.size, i.bytes)) = some (some (.agg #[.complex .f32 0 0, .complex .f32 0 0, .complex .f32 0 0, .float .f32 0, .float .f32 0, .float .f32 0, .float .f32 0]), 7, 40) := by kernel_rfl
end Go.Proofs.YthlphmojldbpkaaGreat

/- DrawTaken: what a picture is taken of. -/
namespace Go.Proofs.YthlphmojldbpkaaGreat
open Go.RowKit
attribute [local go_sem] run_store_float run_store_complex

def stepsL : List Nat := [1048576000, 1056964608, 1065353216, 1073741824, 1050253722]
end Go.Proofs.YthlphmojldbpkaaGreat

/- ActShard: the program's, of valid glass. -/
namespace Go.Proofs.YthlphmojldbpkaaGreat
open Go.RowKit
attribute [local go_sem] run_store_float run_store_complex

def actSh (t : Int) (f : Bool) (s : Sh) : Sh := (actP t f s.1.1 s.1.2, actP t f s.2.1.1 s.2.1.2, actP t f s.2.2.1.1 s.2.2.1.2, s.2.2.2.1, s.2.2.2.2)
end Go.Proofs.YthlphmojldbpkaaGreat

/- SamePicture, both versions. -/
namespace Go.Proofs.YthlphmojldbpkaaGreat
open Go.RowKit

set_option maxHeartbeats 1000000 in
theorem equalCol_any (A B : Option Addr) (n m c d : Nat) (xs ys : List Col) (w : World) (hn : n ≤ maxLen) (hm : m ≤ maxLen) (ha : Rd colC 3 w w.heap.size A n xs) (hb : Rd colC 3 w w.heap.size B m ys) :
    Calls Tryz.prog 41 #[.slice A n c, .slice B m d] w fun e w' => e = .returned (.bool (sameCells xs ys)) ∧ Below w.heap.size w w' := by
  unfold maxLen at hn hm
  by_cases hl : n = m
  · subst hl
    go_enter Tryz.func41, Tryz.ntmps41
    go_wp2
    go_loopw [5, 13] (fun _ i wr => ∃ k : Nat, k ≤ n ∧ i = .int .i64 k ∧ (∀ (i : Nat) x y, i < k → xs[i]? = some x → ys[i]? = some y → colEqB x y = true) ∧ Below w.heap.size w wr) (fun _ i _ => n - (intOf i).toNat)
    case atStart => exact ⟨0, Nat.zero_le _, rfl, fun i x y h => by omega, Below.refl _ _⟩
    case round =>
      obtain ⟨k, hk, rfl, hall, hw⟩ := hrel
      have HALL := Lib.hid hall
      clear hall
      by_cases hlt : k < n
      · obtain ⟨b, off, r, g, l, rfl, hbl, hx, h0, h1, h2⟩ := (ha.below hw).col hlt
        obtain ⟨b', off', r', g', l', rfl, hbl', hy, h0', h1', h2'⟩ := (hb.below hw).col hlt
        have hki : (k : Int) < (n : Int) := by omega
        have hk0 : (0 : Int) ≤ (k : Int) := by omega
        have HX := Lib.hid hx
        have HY := Lib.hid hy
        clear hx hy
        have kc := fun wx => run_neq_col r g l r' g' l' wx
        have HE : ∃ q, q = colEqB (r, g, l) (r', g', l') := ⟨_, rfl⟩
        obtain ⟨q, hq⟩ := HE
        rw [← hq] at kc
        have HQ := Lib.hid hq
        clear hq
        cases q
        · go_wp2
          go_quiet (fail)
          go_wp2
          go_ret
          exact ⟨by rw [sameCells_no HX.out HY.out HQ.out.symm]; rfl, by (repeat (first | with_reducible assumption | exact Below.refl _ _ | (refine Below.setCell ?_ (by first | exact Nat.le_refl _ | (simp; done) | omega | (simp; omega)) _) | (refine below_drewN ?_ _) | (refine Below.drew ?_) | (refine Below.alloc ?_ (by first | exact Nat.le_refl _ | (simp; done) | omega | (simp; omega)) _) | (refine then_ ?_ (by with_reducible assumption)) | assumption | (refine then_ ?_ (by assumption))))⟩
        · go_wp2
          go_quiet (fail)
          go_wp2
          go_roundw
          case rel =>
            refine ⟨k + 1, by omega, by go_num, fun i x y hi j1 j2 => ?_, by (repeat (first | with_reducible assumption | exact Below.refl _ _ | (refine Below.setCell ?_ (by first | exact Nat.le_refl _ | (simp; done) | omega | (simp; omega)) _) | (refine below_drewN ?_ _) | (refine Below.drew ?_) | (refine Below.alloc ?_ (by first | exact Nat.le_refl _ | (simp; done) | omega | (simp; omega)) _) | (refine then_ ?_ (by with_reducible assumption)) | assumption | (refine then_ ?_ (by assumption))))⟩
            by_cases e : i = k
            · subst e
              rw [HX.out] at j1
              rw [HY.out] at j2
              injection j1 with j1
              injection j2 with j2
              subst j1 j2
              exact HQ.out.symm
            · exact HALL.out i x y (by omega) j1 j2
          case measure => simp [intOf]; omega
      · obtain rfl : k = n := by omega
        have hs : sameCells xs ys = true := sameCells_yes (by rw [ha.1, hb.1]) (fun i x y h1 h2 => HALL.out i x y (by have := (List.getElem?_eq_some_iff.1 h1).1; have := ha.1; omega) h1 h2)
        go_wp2
        go_ret
        exact ⟨by rw [hs]; rfl, hw⟩
  · have hs : sameCells xs ys = false := sameCells_len (by rw [ha.1, hb.1]; exact hl)
    have ht : ((n : Int) != (m : Int)) = true := by rw [bne_iff_ne]; omega
    go_enter Tryz.func41, Tryz.ntmps41
    go_wp2
    go_ret
    exact ⟨by rw [hs]; rfl, by (repeat (first | with_reducible assumption | exact Below.refl _ _ | (refine Below.setCell ?_ (by first | exact Nat.le_refl _ | (simp; done) | omega | (simp; omega)) _) | (refine below_drewN ?_ _) | (refine Below.drew ?_) | (refine Below.alloc ?_ (by first | exact Nat.le_refl _ | (simp; done) | omega | (simp; omega)) _) | (refine then_ ?_ (by with_reducible assumption)) | assumption | (refine then_ ?_ (by assumption))))⟩

set_option maxHeartbeats 1000000 in
theorem samePicture_any (A B : Option Addr) (s1 s2 : Int) (n m c d : Nat) (xs ys : List Col) (w : World) (hn : n ≤ maxLen) (hm : m ≤ maxLen) (ha : Rd colC 3 w w.heap.size A n xs) (hb : Rd colC 3 w w.heap.size B m ys) :
    Calls Tryz.prog 13 #[.agg #[.int .i64 s1, .slice A n c], .agg #[.int .i64 s2, .slice B m d]] w fun e w' => e = .returned (.bool (sameP s1 xs s2 ys)) ∧ Below w.heap.size w w' := by
  have r : sameP s1 xs s2 ys = (s1 == s2 && sameCells xs ys) := rfl
  cases hs : (s1 == s2)
  · rw [hs, Bool.false_and] at r
    have R := Lib.hid r
    clear r
    go_enter Tryz.func13, Tryz.ntmps13
    go_wp2
    go_ret
    exact ⟨by rw [R.out]; rfl, by (repeat (first | with_reducible assumption | exact Below.refl _ _ | (refine Below.setCell ?_ (by first | exact Nat.le_refl _ | (simp; done) | omega | (simp; omega)) _) | (refine below_drewN ?_ _) | (refine Below.drew ?_) | (refine Below.alloc ?_ (by first | exact Nat.le_refl _ | (simp; done) | omega | (simp; omega)) _) | (refine then_ ?_ (by with_reducible assumption)) | assumption | (refine then_ ?_ (by assumption))))⟩
  · rw [hs, Bool.true_and] at r
    have R := Lib.hid r
    clear r
    go_enter Tryz.func13, Tryz.ntmps13
    go_wp2_with (go_at_call 41; refine (equalCol_any _ _ _ _ _ _ xs ys _ hn hm (ha.step ?_) (hb.step ?_)).mono ?_; (repeat (first | with_reducible assumption | exact Below.refl _ _ | (refine Below.setCell ?_ (by first | exact Nat.le_refl _ | (simp; done) | omega | (simp; omega)) _) | (refine below_drewN ?_ _) | (refine Below.drew ?_) | (refine Below.alloc ?_ (by first | exact Nat.le_refl _ | (simp; done) | omega | (simp; omega)) _) | (refine then_ ?_ (by with_reducible assumption)) | assumption | (refine then_ ?_ (by assumption)))); rintro e w' ⟨rfl, hb1⟩)
    go_ret
    exact ⟨by rw [R.out]; rfl, by (repeat (first | with_reducible assumption | exact Below.refl _ _ | (refine Below.setCell ?_ (by first | exact Nat.le_refl _ | (simp; done) | omega | (simp; omega)) _) | (refine below_drewN ?_ _) | (refine Below.drew ?_) | (refine Below.alloc ?_ (by first | exact Nat.le_refl _ | (simp; done) | omega | (simp; omega)) _) | (refine then_ ?_ (by with_reducible assumption)) | assumption | (refine then_ ?_ (by assumption))))⟩

end Go.Proofs.YthlphmojldbpkaaGreat

/- SymsOfPicture, both versions. -/
namespace Go.Proofs.YthlphmojldbpkaaGreat
open Go.RowKit
attribute [local go_sem] run_store_float run_store_complex

def keepB (s : Int) (xs : List Col) (g : Int × Bool) : Bool := sameP (actL g.1 g.2 s xs).1 (actL g.1 g.2 s xs).2 s xs
def symsP (s : Int) (xs : List Col) : List (Int × Bool) := if pictB s xs then (symsL 3).filter (keepB s xs) else []
end Go.Proofs.YthlphmojldbpkaaGreat
