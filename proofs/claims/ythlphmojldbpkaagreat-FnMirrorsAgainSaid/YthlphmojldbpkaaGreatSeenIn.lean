
/- SeenIn: the program's, of good shows. -/
import Derived.Test.YthlphmojldbpkaaGreatM36
import Derived.Test.YthlphmojldbpkaaGreatM38
import Derived.Test.YthlphmojldbpkaaGreatM21
import Derived.Test.YthlphmojldbpkaaGreatM35
import Derived.Deep.CutRange
namespace Go.Proofs.YthlphmojldbpkaaGreat
open Go.RowKit
attribute [local go_sem] run_store_float run_store_complex

/-- the glass that is seen: moved to where the beads are -/
def glassUp (sh : List Sh) (bs : List Bd) : Nat → List Sh
  | 0 => []
  | k + 1 => match sh[k]?, bs[k]? with
    | some x, some b => if okSh (moveSh x b.1) then glassUp sh bs k ++ [moveSh x b.1] else glassUp sh bs k
    | _, _ => glassUp sh bs k
theorem glassUp_yes {sh : List Sh} {bs : List Bd} {k : Nat} {x : Sh} {b : Bd} (hx : sh[k]? = some x) (hb : bs[k]? = some b) (h : okSh (moveSh x b.1) = true) : glassUp sh bs (k + 1) = glassUp sh bs k ++ [moveSh x b.1] := by
  show (match sh[k]?, bs[k]? with | some x, some b => if okSh (moveSh x b.1) then glassUp sh bs k ++ [moveSh x b.1] else glassUp sh bs k | _, _ => glassUp sh bs k) = _
  rw [hx, hb]
  simp [h]
theorem glassUp_no {sh : List Sh} {bs : List Bd} {k : Nat} {x : Sh} {b : Bd} (hx : sh[k]? = some x) (hb : bs[k]? = some b) (h : okSh (moveSh x b.1) = false) : glassUp sh bs (k + 1) = glassUp sh bs k := by
  show (match sh[k]?, bs[k]? with | some x, some b => if okSh (moveSh x b.1) then glassUp sh bs k ++ [moveSh x b.1] else glassUp sh bs k | _, _ => glassUp sh bs k) = _
  rw [hx, hb]
  simp [h]
theorem glassUp_len (sh : List Sh) (bs : List Bd) : ∀ k, (glassUp sh bs k).length ≤ k
  | 0 => Nat.le_refl _
  | k + 1 => by
    have ih := glassUp_len sh bs k
    cases hx : sh[k]? with
    | none => unfold glassUp; rw [hx]; dsimp only; omega
    | some x =>
      cases hb : bs[k]? with
      | none => unfold glassUp; rw [hx, hb]; dsimp only; omega
      | some b =>
        cases h : okSh (moveSh x b.1)
        · rw [glassUp_no hx hb h]; omega
        · rw [glassUp_yes hx hb h]; simp; omega
theorem glassUp_ok (sh : List Sh) (bs : List Bd) : ∀ k, (glassUp sh bs k).all okSh = true
  | 0 => rfl
  | k + 1 => by
    have ih := glassUp_ok sh bs k
    cases hx : sh[k]? with
    | none => unfold glassUp; rw [hx]; exact ih
    | some x =>
      cases hb : bs[k]? with
      | none => unfold glassUp; rw [hx, hb]; exact ih
      | some b =>
        cases h : okSh (moveSh x b.1)
        · rw [glassUp_no hx hb h]; exact ih
        · rw [glassUp_yes hx hb h, List.all_append, ih]; simp [h]
theorem wedge_point {kind : Int} {p : Pt} (h : wedgeB kind p = true) : pointB p.1 p.2 = true := by
  unfold wedgeB at h
  rw [Bool.and_eq_true] at h
  exact h.1
theorem box_first {X w5 : World} {a : Array Value} {t : TypeId} (hb : Below (X.alloc (Obj.cells a t)).drew.heap.size (X.alloc (Obj.cells a t)).drew w5) :
    X.heap.size < w5.heap.size ∧ CA w5 X.heap.size a.toList ∧ FA w5 X.heap.size :=
  ⟨by have := hb.size; have e : (X.alloc (Obj.cells a t)).drew.heap.size = X.heap.size + 1 := (show (X.alloc (Obj.cells a t)).heap.size = _ by simp); omega, (show CA (X.alloc (Obj.cells a t)).drew X.heap.size a.toList from CA.new X a t).keep hb, (show FA (X.alloc (Obj.cells a t)).drew X.heap.size from FA.new X a t).keep hb (by show X.heap.size < (X.alloc (Obj.cells a t)).heap.size; simp)⟩

set_option maxRecDepth 100000 in
set_option maxHeartbeats 16000000 in
theorem seenIn_any (s : Shw) (S B L : Option Addr) (k d q0 N : Nat) (w : World) (hg : Good s) (hk : okS s = true) (hN : s.sz * s.sz = (N : Int)) (hr : RdS w s S B L) :
    Calls Tryz.prog 11 #[.agg #[.int .i64 s.sz, .float .f32 s.st, .float .f32 s.li.1, .float .f32 s.li.2.1, .float .f32 s.li.2.2, .slice S s.sh.length k, .int .i64 s.mir, .complex .f32 s.gr.1 s.gr.2, .float .f32 s.loss, .slice B s.bs.length d, .int .i64 s.tk, .slice L s.log.length q0]] w fun r w' => (∃ A c, r = .returned (.tuple #[.agg #[.int .i64 s.sz, .slice A N c], .bool true]) ∧ w'.ownsRow w.heap.size 26 3 (.slice A N c) N (flat colC (takeUp s.mir s.sz s.st (glassUp s.sh s.bs s.sh.length) s.li N))) ∧ Below w.heap.size w w' := by
  obtain ⟨p1, p2, p3, p4⟩ := okS_parts.1 hk
  have hl := hg.len
  have l1 : s.sh.length ≤ 8 := by omega
  have KI := Lib.hid (fun w (h : RdS w s S B L) => isShow_any s S B L s.sh.length k s.bs.length d s.log.length q0 w hg (by omega) (by omega) (by omega) h.1 h.2.1 h.2.2)
  rw [hk] at KI
  obtain ⟨ls, hls⟩ : ∃ ls, ls = glassUp s.sh s.bs s.sh.length := ⟨_, rfl⟩
  have KT := Lib.hid (fun G c w h => takePicture_yes s.mir s.sz s.st G ls.length c ls s.li.1 s.li.2.1 s.li.2.2 N w hg.mir hg.sz hg.st (by rw [hls]; have := glassUp_len s.sh s.bs s.sh.length; omega) (by rw [hls]; exact glassUp_ok _ _ _) hg.li hN h)
  rw [← hls]
  have LS := Lib.hid hls
  have HG := Lib.hid hg
  have HR := Lib.hid hr
  obtain ⟨n, hnn⟩ : ∃ n, n = s.sh.length := ⟨_, rfl⟩
  have hnb : s.bs.length = n := by omega
  have RS := Lib.hid (hr.rs)
  have RB := Lib.hid (hr.rb)
  rw [← hnn] at KI RS LS l1 ⊢
  rw [hnb] at KI RB ⊢
  obtain ⟨i0, hi, hz0, hz1, hz2⟩ := info_parts infoSh
  clear hg hk hr p1 p2 p3 p4 hl hN hls hnn hnb
  go_enter Tryz.func11, Tryz.ntmps11
  go_upto_region 1 with fail
  have hW := Below.refl w.heap.size w
  have ca := CA.new w #[.int .i64 s.sz, .float .f32 s.st, .float .f32 s.li.1, .float .f32 s.li.2.1, .float .f32 s.li.2.2, .slice S n k, .int .i64 s.mir, .complex .f32 s.gr.1 s.gr.2, .float .f32 s.loss, .slice B n d, .int .i64 s.tk, .slice L s.log.length q0] 34; have fa := FA.new w #[.int .i64 s.sz, .float .f32 s.st, .float .f32 s.li.1, .float .f32 s.li.2.1, .float .f32 s.li.2.2, .slice S n k, .int .i64 s.mir, .complex .f32 s.gr.1 s.gr.2, .float .f32 s.loss, .slice B n d, .int .i64 s.tk, .slice L s.log.length q0] 34; replace hW := hW.alloc (hW.size) (Obj.cells #[.int .i64 s.sz, .float .f32 s.st, .float .f32 s.li.1, .float .f32 s.li.2.1, .float .f32 s.li.2.2, .slice S n k, .int .i64 s.mir, .complex .f32 s.gr.1 s.gr.2, .float .f32 s.loss, .slice B n d, .int .i64 s.tk, .slice L s.log.length q0] 34); obtain ⟨V1, hV1e⟩ : ∃ V1, V1 = w.alloc (Obj.cells #[.int .i64 s.sz, .float .f32 s.st, .float .f32 s.li.1, .float .f32 s.li.2.1, .float .f32 s.li.2.2, .slice S n k, .int .i64 s.mir, .complex .f32 s.gr.1 s.gr.2, .float .f32 s.loss, .slice B n d, .int .i64 s.tk, .slice L s.log.length q0] 34) := ⟨_, rfl⟩; have zV1 : V1.heap.size = w.heap.size + 1 := (by rw [hV1e]; simp); rw [← hV1e] at ca fa hW; rw [← hV1e]; clear hV1e; have la := ca.lt
  have co := CA.new V1 #[.int .i64 0, .slice none 0 0] 47; have fo := FA.new V1 #[.int .i64 0, .slice none 0 0] 47; replace ca := ca.alloc (Obj.cells #[.int .i64 0, .slice none 0 0] 47); replace fa := fa.alloc la (Obj.cells #[.int .i64 0, .slice none 0 0] 47); replace hW := hW.alloc (hW.size) (Obj.cells #[.int .i64 0, .slice none 0 0] 47); obtain ⟨V, hVe⟩ : ∃ V, V = V1.alloc (Obj.cells #[.int .i64 0, .slice none 0 0] 47) := ⟨_, rfl⟩; have zV : V.heap.size = V1.heap.size + 1 := (by rw [hVe]; simp); rw [← hVe] at co fo ca fa hW; rw [← hVe]; clear hVe; have lo := co.lt; replace la := ca.lt
  rw [zV1] at co fo lo zV
  have hWV := Lib.hid hW
  have CAV := Lib.hid ca
  have COV := Lib.hid co
  have FOV := Lib.hid fo
  have LA := Lib.hid la
  have LO := Lib.hid lo
  have zVV := Lib.hid zV
  clear zV1 zV
  have a0 := ca 0 _ rfl; have a1 := ca 1 _ rfl; have a2 := ca 2 _ rfl; have a3 := ca 3 _ rfl; have a4 := ca 4 _ rfl; have a5 := ca 5 _ rfl; have a6 := ca 6 _ rfl; have a7 := ca 7 _ rfl; have a8 := ca 8 _ rfl; have a9 := ca 9 _ rfl; have a10 := ca 10 _ rfl; have a11 := ca 11 _ rfl
  go_wp2_with fail
  (with_reducible refine (KI.out _ (HR.out.step hW)).mono ?_)
  rintro r w1 ⟨rfl, hb1⟩
  clear a0 a1 a2 a3 a4 a5 a6 a7 a8 a9 a10 a11 ca fa co fo la lo hW KI
  have hVw := hb1.size
  go_upto_region 4 with fail
  have o0 : (w1.alloc (Obj.cells #[] 36)).ownsRow V.heap.size 36 7 (.slice (some ⟨w1.heap.size, 0, none⟩) 0 0) 0 [] := World.ownsRow_lit (base := V.heap.size) (size := 7) (e := 36) w1 #[] 0 hVw (by simp [maxLen]) rfl
  have hB0 : Below V.heap.size V (w1.alloc (Obj.cells #[] 36)) := hb1.alloc hVw _
  have O0 := Lib.hid o0
  have HB0 := Lib.hid hB0
  have a5 : (w1.alloc (Obj.cells #[] 36)).cell? ⟨w.heap.size, 5, none⟩ = some (.slice S n k) := (CAV.out.belB hB0 LA.out) 5 _ rfl
  obtain ⟨W, hWe⟩ : ∃ W, W = w1.alloc (Obj.cells #[] 36) := ⟨_, rfl⟩
  rw [← hWe] at O0 HB0 a5
  rw [← hWe]
  clear hWe o0 hB0 hb1
  go_wp2_with fail
  clear a5 hVw
  go_loopw [4, 17] (fun v i wr => ∃ (kk : Nat) (G : Option Addr) (gc : Nat), kk ≤ n ∧ v = .slice G (glassUp s.sh s.bs kk).length gc ∧ i = .int .i64 kk ∧ wr.ownsRow V.heap.size 36 7 (.slice G (glassUp s.sh s.bs kk).length gc) (glassUp s.sh s.bs kk).length (flat shC (glassUp s.sh s.bs kk)) ∧ Below V.heap.size V wr) (fun _ i _ => n - (intOf i).toNat)
  case atStart => exact ⟨0, _, _, Nat.zero_le _, rfl, rfl, O0.out, HB0.out⟩
  case round =>
    clear O0 HB0
    obtain ⟨kk, G, gc, hkn, rfl, rfl, hown, hBV⟩ := hrel
    have hWr := then_ hWV.out hBV
    have ca := CAV.out.belB hBV LA.out
    have HN8 : kk ≤ 8 := by omega
    obtain ⟨ys, hys⟩ : ∃ ys, ys = glassUp s.sh s.bs kk := ⟨_, rfl⟩
    obtain ⟨m, hm⟩ : ∃ m, m = ys.length := ⟨_, rfl⟩
    have hm8 : m ≤ 8 := by rw [hm, hys]; have := glassUp_len s.sh s.bs kk; omega
    rw [← hys, ← hm] at hown
    rw [← hys, ← hm]
    have YS := Lib.hid hys
    have HM := Lib.hid hm
    have la : w.heap.size < wr.heap.size := Nat.lt_of_lt_of_le LA.out hBV.size
    clear hys hm
    by_cases hlt : kk < n
    · obtain ⟨bb, off, a, e, f, ⟨r, g, l⟩, q, hSe, hbl, hx, h0, h1, h2, h3, h4, h5, h6⟩ : ∃ bb off a e f, ∃ (c : Col), ∃ q, S = some ⟨bb, off, none⟩ ∧ bb < wr.heap.size ∧ s.sh[kk]? = some (a, e, f, c, q) ∧ wr.cell? ⟨bb, off + kk * 7, none⟩ = some (.complex .f32 a.1 a.2) ∧ wr.cell? ⟨bb, off + kk * 7 + 1, none⟩ = some (.complex .f32 e.1 e.2) ∧ wr.cell? ⟨bb, off + kk * 7 + 2, none⟩ = some (.complex .f32 f.1 f.2) ∧ wr.cell? ⟨bb, off + kk * 7 + 3, none⟩ = some (.float .f32 c.1) ∧ wr.cell? ⟨bb, off + kk * 7 + 4, none⟩ = some (.float .f32 c.2.1) ∧ wr.cell? ⟨bb, off + kk * 7 + 5, none⟩ = some (.float .f32 c.2.2) ∧ wr.cell? ⟨bb, off + kk * 7 + 6, none⟩ = some (.float .f32 q) := by
        obtain ⟨bb, off, a, c, d, r, g, l, q, e, hb, hx, h⟩ := (RS.out.step hWr).sh hlt
        exact ⟨bb, off, a, c, d, (r, g, l), q, e, hb, hx, h⟩
      obtain ⟨b2, of2, b1, v1, hBe, hb2, hy, y0, y1⟩ := (RB.out.step hWr).bd hlt
      have hokx := List.all_eq_true.1 HG.out.sh _ (List.mem_of_getElem? hx)
      have hbp := wedge_point (HG.out.wed _ (List.mem_of_getElem? hy))
      dsimp only at h3 h4 h5 hbp
      have hki : (kk : Int) < (n : Int) := by omega
      have hk0 : (0 : Int) ≤ (kk : Int) := by omega
      obtain ⟨M, hM⟩ : ∃ M, M = moveSh (a, e, f, (r, g, l), q) b1 := ⟨_, rfl⟩
      have kv := fun w => moveShard_lit a e f r g l q b1 w hokx hbp
      rw [← hM] at kv
      have HX := Lib.hid hx
      have HY := Lib.hid hy
      have HMM := Lib.hid hM
      clear hx hy hokx hbp hM
      cases hok : okSh M
      · rw [hok] at kv
        have KV := Lib.hid (show ∀ w, Calls Tryz.prog 37 #[.agg #[.complex .f32 a.1 a.2, .complex .f32 e.1 e.2, .complex .f32 f.1 f.2, .float .f32 r, .float .f32 g, .float .f32 l, .float .f32 q], .complex .f32 b1.1 b1.2] w (fun rr w' => rr = .returned (.tuple #[.agg #[.complex .f32 a.1 a.2, .complex .f32 e.1 e.2, .complex .f32 f.1 f.2, .float .f32 r, .float .f32 g, .float .f32 l, .float .f32 q], .bool false]) ∧ Below w.heap.size w w') from kv)
        have GU := Lib.hid (glassUp_no HX.out HY.out (by rw [← HMM.out]; exact hok))
        clear kv hok
        subst hSe hBe
        have a0 := ca 0 _ rfl; have a1 := ca 1 _ rfl; have a2 := ca 2 _ rfl; have a3 := ca 3 _ rfl; have a4 := ca 4 _ rfl; have a5 := ca 5 _ rfl; have a6 := ca 6 _ rfl; have a7 := ca 7 _ rfl; have a8 := ca 8 _ rfl; have a9 := ca 9 _ rfl; have a10 := ca 10 _ rfl; have a11 := ca 11 _ rfl
        go_upto_region 7 with fail
        have cx := CA.new wr #[.complex .f32 a.1 a.2, .complex .f32 e.1 e.2, .complex .f32 f.1 f.2, .float .f32 r, .float .f32 g, .float .f32 l, .float .f32 q] 36
        have hbe : Below wr.heap.size wr (wr.alloc (Obj.cells #[.complex .f32 a.1 a.2, .complex .f32 e.1 e.2, .complex .f32 f.1 f.2, .float .f32 r, .float .f32 g, .float .f32 l, .float .f32 q] 36)) := by (with_reducible exact Below.alloc (Below.refl _ _) (Nat.le_refl _) _)
        have own' := hown.alloc (Obj.cells #[.complex .f32 a.1 a.2, .complex .f32 e.1 e.2, .complex .f32 f.1 f.2, .float .f32 r, .float .f32 g, .float .f32 l, .float .f32 q] 36)
        replace ca := ca.keep hbe
        have y0' := keepC y0 hbe
        have hBX := then_ hBV hbe
        obtain ⟨X, hX⟩ : ∃ X, X = wr.alloc (Obj.cells #[.complex .f32 a.1 a.2, .complex .f32 e.1 e.2, .complex .f32 f.1 f.2, .float .f32 r, .float .f32 g, .float .f32 l, .float .f32 q] 36) := ⟨_, rfl⟩
        rw [← hX] at cx own' ca y0' hBX
        rw [← hX]
        clear hX hbe h0 h1 h2 h3 h4 h5 h6 y0 y1 a0 a1 a2 a3 a4 a5 a6 a7 a8 a9 a10 a11 hown la hWr hbl hb2 hBV
        have OW := Lib.hid own'
        clear own'
        have lb2 : b2 < X.heap.size := World.block_lt_of_cell? _ _ y0'
        have la := ca.lt
        have lx := cx.lt
        have a0 := ca 0 _ rfl; have a1 := ca 1 _ rfl; have a2 := ca 2 _ rfl; have a3 := ca 3 _ rfl; have a4 := ca 4 _ rfl; have a5 := ca 5 _ rfl; have a6 := ca 6 _ rfl; have a7 := ca 7 _ rfl; have a8 := ca 8 _ rfl; have a9 := ca 9 _ rfl; have a10 := ca 10 _ rfl; have a11 := ca 11 _ rfl
        have x0 := cx 0 _ rfl; have x1 := cx 1 _ rfl; have x2 := cx 2 _ rfl; have x3 := cx 3 _ rfl; have x4 := cx 4 _ rfl; have x5 := cx 5 _ rfl; have x6 := cx 6 _ rfl
        go_cut [7, 8] from 18 to 39 (fun v7 v8 wx => ∃ g7 : Nat, v7 = .pointer (some ⟨g7, 0, none⟩) ∧ v8 = .bool false ∧ CA wx g7 #[.complex .f32 a.1 a.2, .complex .f32 e.1 e.2, .complex .f32 f.1 f.2, .float .f32 r, .float .f32 g, .float .f32 l, .float .f32 q].toList ∧ Below X.heap.size X wx)
        case first =>
          go_region_held3 (fun w' => (∀ b o, b < X.heap.size → w'.cell? ⟨b, o, none⟩ = X.cell? ⟨b, o, none⟩) ∧ Below X.heap.size X w') (first | with_reducible assumption | with_reducible exact startS _ | with_reducible exact startSM _ _ | with_reducible exact stepS (by assumption) (by assumption) | with_reducible exact ofBel (by (repeat (first | with_reducible assumption | with_reducible exact Below.refl _ _ | with_reducible refine Below.setCell ?_ (by first | exact Nat.le_refl _ | (dsimp only; omega)) _ | with_reducible refine Below.alloc ?_ (by first | exact Nat.le_refl _ | omega) _ | with_reducible refine Below.drew ?_ | with_reducible refine below_drewN ?_ _)))) (first | (go_at_call 37; (with_reducible refine (KV.out _).mono ?_); rintro r6 w6 ⟨rfl, hb6⟩; have hB6 : Below X.heap.size X w6 := (by (repeat (first | with_reducible assumption | exact Below.refl _ _ | (refine Below.setCell ?_ (by first | exact Nat.le_refl _ | (simp; done) | omega | (simp; omega)) _) | (refine below_drewN ?_ _) | (refine Below.drew ?_) | (refine Below.alloc ?_ (by first | exact Nat.le_refl _ | (simp; done) | omega | (simp; omega)) _) | (refine then_ ?_ (by with_reducible assumption)) | assumption | (refine then_ ?_ (by assumption))))); have z6 := hB6.size; (first | (obtain ⟨hx6, cg, fg⟩ := box_first hb6; have k0 := cg 0 _ rfl; have k1 := cg 1 _ rfl; have k2 := cg 2 _ rfl; have k3 := cg 3 _ rfl; have k4 := cg 4 _ rfl; have k5 := cg 5 _ rfl; have k6 := cg 6 _ rfl; have j0 := fg 0; have j1 := fg 1; have j2 := fg 2; have j3 := fg 3; have j4 := fg 4; have j5 := fg 5; have j6 := fg 6; have lg := cg.lt) | skip)))
          all_goals
            go_wp2_with fail
            go_meet
            first
              | (refine ⟨w6.heap.size, rfl, rfl, ?_, (by (repeat (first | with_reducible assumption | with_reducible exact Below.refl _ _ | with_reducible refine Below.setCell ?_ (by first | exact Nat.le_refl _ | (dsimp only; omega)) _ | with_reducible refine Below.alloc ?_ (by first | exact Nat.le_refl _ | omega) _ | with_reducible refine Below.drew ?_ | with_reducible refine below_drewN ?_ _)))⟩
                 exact CA.new w6 _ _)
              | (refine ⟨X.heap.size, rfl, rfl, ?_, (by (repeat (first | with_reducible assumption | with_reducible exact Below.refl _ _ | with_reducible refine Below.setCell ?_ (by first | exact Nat.le_refl _ | (dsimp only; omega)) _ | with_reducible refine Below.alloc ?_ (by first | exact Nat.le_refl _ | omega) _ | with_reducible refine Below.drew ?_ | with_reducible refine below_drewN ?_ _)))⟩
                 exact (((((((cg.put 0 _).put 1 _).put 2 _).put 3 _).put 4 _).put 5 _).put 6 _))
        case rest =>
          obtain ⟨g7, rfl, rfl, c7, hwc⟩ := hcut
          have OW2 := Lib.hid (owns_below OW.out hwc)
          have hB2 := then_ hBX hwc
          clear OW a0 a1 a2 a3 a4 a5 a6 a7 a8 a9 a10 a11 x0 x1 x2 x3 x4 x5 x6
          have k0 := c7 0 _ rfl; have k1 := c7 1 _ rfl; have k2 := c7 2 _ rfl; have k3 := c7 3 _ rfl; have k4 := c7 4 _ rfl; have k5 := c7 5 _ rfl; have k6 := c7 6 _ rfl
          have lg7 := c7.lt
          go_wp2
          go_roundw
          case rel =>
            refine ⟨kk + 1, G, gc, by omega, ?_, by go_num, ?_, hB2⟩
            · rw [GU.out, ← YS.out, ← HM.out]
            · rw [GU.out, ← YS.out, ← HM.out]; exact OW2.out
          case measure => simp [intOf]; omega
      · rw [hok] at kv
        have KV := Lib.hid (show ∀ w, Calls Tryz.prog 37 #[.agg #[.complex .f32 a.1 a.2, .complex .f32 e.1 e.2, .complex .f32 f.1 f.2, .float .f32 r, .float .f32 g, .float .f32 l, .float .f32 q], .complex .f32 b1.1 b1.2] w (fun rr w' => rr = .returned (.tuple #[.agg #[.complex .f32 M.1.1 M.1.2, .complex .f32 M.2.1.1 M.2.1.2, .complex .f32 M.2.2.1.1 M.2.2.1.2, .float .f32 M.2.2.2.1.1, .float .f32 M.2.2.2.1.2.1, .float .f32 M.2.2.2.1.2.2, .float .f32 M.2.2.2.2], .bool true]) ∧ Below w.heap.size w w') from kv)
        have GU := Lib.hid (glassUp_yes HX.out HY.out (by rw [← HMM.out]; exact hok))
        clear kv hok
        subst hSe hBe
        have a0 := ca 0 _ rfl; have a1 := ca 1 _ rfl; have a2 := ca 2 _ rfl; have a3 := ca 3 _ rfl; have a4 := ca 4 _ rfl; have a5 := ca 5 _ rfl; have a6 := ca 6 _ rfl; have a7 := ca 7 _ rfl; have a8 := ca 8 _ rfl; have a9 := ca 9 _ rfl; have a10 := ca 10 _ rfl; have a11 := ca 11 _ rfl
        go_upto_region 7 with fail
        have cx := CA.new wr #[.complex .f32 a.1 a.2, .complex .f32 e.1 e.2, .complex .f32 f.1 f.2, .float .f32 r, .float .f32 g, .float .f32 l, .float .f32 q] 36
        have hbe : Below wr.heap.size wr (wr.alloc (Obj.cells #[.complex .f32 a.1 a.2, .complex .f32 e.1 e.2, .complex .f32 f.1 f.2, .float .f32 r, .float .f32 g, .float .f32 l, .float .f32 q] 36)) := by (with_reducible exact Below.alloc (Below.refl _ _) (Nat.le_refl _) _)
        have own' := hown.alloc (Obj.cells #[.complex .f32 a.1 a.2, .complex .f32 e.1 e.2, .complex .f32 f.1 f.2, .float .f32 r, .float .f32 g, .float .f32 l, .float .f32 q] 36)
        replace ca := ca.keep hbe
        have y0' := keepC y0 hbe
        have hBX := then_ hBV hbe
        obtain ⟨X, hX⟩ : ∃ X, X = wr.alloc (Obj.cells #[.complex .f32 a.1 a.2, .complex .f32 e.1 e.2, .complex .f32 f.1 f.2, .float .f32 r, .float .f32 g, .float .f32 l, .float .f32 q] 36) := ⟨_, rfl⟩
        rw [← hX] at cx own' ca y0' hBX
        rw [← hX]
        clear hX hbe h0 h1 h2 h3 h4 h5 h6 y0 y1 a0 a1 a2 a3 a4 a5 a6 a7 a8 a9 a10 a11 hown la hWr hbl hb2 hBV
        have OW := Lib.hid own'
        clear own'
        have lb2 : b2 < X.heap.size := World.block_lt_of_cell? _ _ y0'
        have la := ca.lt
        have lx := cx.lt
        have a0 := ca 0 _ rfl; have a1 := ca 1 _ rfl; have a2 := ca 2 _ rfl; have a3 := ca 3 _ rfl; have a4 := ca 4 _ rfl; have a5 := ca 5 _ rfl; have a6 := ca 6 _ rfl; have a7 := ca 7 _ rfl; have a8 := ca 8 _ rfl; have a9 := ca 9 _ rfl; have a10 := ca 10 _ rfl; have a11 := ca 11 _ rfl
        have x0 := cx 0 _ rfl; have x1 := cx 1 _ rfl; have x2 := cx 2 _ rfl; have x3 := cx 3 _ rfl; have x4 := cx 4 _ rfl; have x5 := cx 5 _ rfl; have x6 := cx 6 _ rfl
        go_cut [7, 8] from 18 to 39 (fun v7 v8 wx => ∃ g7 : Nat, v7 = .pointer (some ⟨g7, 0, none⟩) ∧ v8 = .bool true ∧ CA wx g7 #[.complex .f32 M.1.1 M.1.2, .complex .f32 M.2.1.1 M.2.1.2, .complex .f32 M.2.2.1.1 M.2.2.1.2, .float .f32 M.2.2.2.1.1, .float .f32 M.2.2.2.1.2.1, .float .f32 M.2.2.2.1.2.2, .float .f32 M.2.2.2.2].toList ∧ Below X.heap.size X wx)
        case first =>
          go_region_held3 (fun w' => (∀ b o, b < X.heap.size → w'.cell? ⟨b, o, none⟩ = X.cell? ⟨b, o, none⟩) ∧ Below X.heap.size X w') (first | with_reducible assumption | with_reducible exact startS _ | with_reducible exact startSM _ _ | with_reducible exact stepS (by assumption) (by assumption) | with_reducible exact ofBel (by (repeat (first | with_reducible assumption | with_reducible exact Below.refl _ _ | with_reducible refine Below.setCell ?_ (by first | exact Nat.le_refl _ | (dsimp only; omega)) _ | with_reducible refine Below.alloc ?_ (by first | exact Nat.le_refl _ | omega) _ | with_reducible refine Below.drew ?_ | with_reducible refine below_drewN ?_ _)))) (first | (go_at_call 37; (with_reducible refine (KV.out _).mono ?_); rintro r6 w6 ⟨rfl, hb6⟩; have hB6 : Below X.heap.size X w6 := (by (repeat (first | with_reducible assumption | exact Below.refl _ _ | (refine Below.setCell ?_ (by first | exact Nat.le_refl _ | (simp; done) | omega | (simp; omega)) _) | (refine below_drewN ?_ _) | (refine Below.drew ?_) | (refine Below.alloc ?_ (by first | exact Nat.le_refl _ | (simp; done) | omega | (simp; omega)) _) | (refine then_ ?_ (by with_reducible assumption)) | assumption | (refine then_ ?_ (by assumption))))); have z6 := hB6.size; (first | (obtain ⟨hx6, cg, fg⟩ := box_first hb6; have k0 := cg 0 _ rfl; have k1 := cg 1 _ rfl; have k2 := cg 2 _ rfl; have k3 := cg 3 _ rfl; have k4 := cg 4 _ rfl; have k5 := cg 5 _ rfl; have k6 := cg 6 _ rfl; have j0 := fg 0; have j1 := fg 1; have j2 := fg 2; have j3 := fg 3; have j4 := fg 4; have j5 := fg 5; have j6 := fg 6; have lg := cg.lt) | skip)))
          all_goals
            go_wp2_with fail
            go_meet
            first
              | (refine ⟨w6.heap.size, rfl, rfl, ?_, (by (repeat (first | with_reducible assumption | with_reducible exact Below.refl _ _ | with_reducible refine Below.setCell ?_ (by first | exact Nat.le_refl _ | (dsimp only; omega)) _ | with_reducible refine Below.alloc ?_ (by first | exact Nat.le_refl _ | omega) _ | with_reducible refine Below.drew ?_ | with_reducible refine below_drewN ?_ _)))⟩
                 exact CA.new w6 _ _)
              | (refine ⟨X.heap.size, rfl, rfl, ?_, (by (repeat (first | with_reducible assumption | with_reducible exact Below.refl _ _ | with_reducible refine Below.setCell ?_ (by first | exact Nat.le_refl _ | (dsimp only; omega)) _ | with_reducible refine Below.alloc ?_ (by first | exact Nat.le_refl _ | omega) _ | with_reducible refine Below.drew ?_ | with_reducible refine below_drewN ?_ _)))⟩
                 exact (((((((cg.put 0 _).put 1 _).put 2 _).put 3 _).put 4 _).put 5 _).put 6 _))
        case rest =>
          obtain ⟨g7, rfl, rfl, c7, hwc⟩ := hcut
          have OW2 := Lib.hid (owns_below OW.out hwc)
          have hB2 := then_ hBX hwc
          clear OW a0 a1 a2 a3 a4 a5 a6 a7 a8 a9 a10 a11 x0 x1 x2 x3 x4 x5 x6
          have k0 := c7 0 _ rfl; have k1 := c7 1 _ rfl; have k2 := c7 2 _ rfl; have k3 := c7 3 _ rfl; have k4 := c7 4 _ rfl; have k5 := c7 5 _ rfl; have k6 := c7 6 _ rfl
          have lg7 := c7.lt
          go_wp2_with (at_builtin; refine wpList_append_own_at _ rfl _ _ 27 rfl V.heap.size 36 i0 (.agg #[.complex .f32 0 0, .complex .f32 0 0, .complex .f32 0 0, .float .f32 0, .float .f32 0, .float .f32 0, .float .f32 0]) 7 40 Tryz.underlying27 hi hz0 hz1 hz2 rfl (by decide) _ _ _ rfl (OW2.out.alloc _) ⟨wc.heap.size, 0, none⟩ 1 1 [.complex .f32 M.1.1 M.1.2, .complex .f32 M.2.1.1 M.2.1.2, .complex .f32 M.2.2.1.1 M.2.2.1.2, .float .f32 M.2.2.2.1.1, .float .f32 M.2.2.2.1.2.1, .float .f32 M.2.2.2.1.2.2, .float .f32 M.2.2.2.2] rfl rfl ?c19 ?c29 ?c39 ?c49 ?c59 ?_; (case c19 => exact World.news_of_block (cs := #[.complex .f32 M.1.1 M.1.2, .complex .f32 M.2.1.1 M.2.1.2, .complex .f32 M.2.2.1.1 M.2.2.1.2, .float .f32 M.2.2.2.1.1, .float .f32 M.2.2.2.1.2.1, .float .f32 M.2.2.2.1.2.2, .float .f32 M.2.2.2.2]) (t := 36) (fr := (0, 0)) (heap_alloc_new wc _)); (case c29 => simp [Value.oneCell']); (case c39 => unfold maxLen; omega); (case c49 => omega); (case c59 => (have := Below.size hB2; simp only [World.size_alloc]; omega)); intro v9 w9 hown9 hg9 hne9 hat9; simp only [World.size_alloc] at hat9; have GB9 := Lib.hid hg9; have OW9 := Lib.hid hown9; have BW9 := below_append hB2 OW2.out hg9; have NB9 := Lib.hid hat9; clear hown9 hg9 hne9 hat9)
          obtain ⟨G9, gc9, rfl⟩ := owns_slice OW9.out
          go_wp2
          go_roundw
          case rel =>
            have eL : (glassUp s.sh s.bs (kk + 1)).length = m + 1 := by rw [GU.out, ← YS.out, List.length_append, ← HM.out]; rfl
            refine ⟨kk + 1, G9, gc9, by omega, ?_, by go_num, ?_, BW9⟩
            · rw [eL]
            · rw [eL, GU.out, ← YS.out, ← HMM.out, flat_append]; exact OW9.out
          case measure => simp [intOf]; omega
    · obtain rfl : kk = n := by omega
      have yl : ys = ls := by rw [YS.out, LS.out]
      subst yl
      have hlen := HM.out
      subst hlen
      have co := COV.out.belB hBV LO.out
      have fo := FOV.out.belB hBV LO.out
      have lo : w.heap.size + 1 < wr.heap.size := Nat.lt_of_lt_of_le LO.out hBV.size
      have hrd := Lib.hid (Rd.of_own shC_len rfl hown)
      have a0 := ca 0 _ rfl; have a1 := ca 1 _ rfl; have a2 := ca 2 _ rfl; have a3 := ca 3 _ rfl; have a4 := ca 4 _ rfl; have a5 := ca 5 _ rfl; have a6 := ca 6 _ rfl; have a7 := ca 7 _ rfl; have a8 := ca 8 _ rfl; have a9 := ca 9 _ rfl; have a10 := ca 10 _ rfl; have a11 := ca 11 _ rfl
      clear hown
      go_wp2_with fail
      (with_reducible refine (KT.out _ _ _ hrd.out).mono ?_)
      rintro r w5 ⟨⟨A5, c5, rfl, own5⟩, hb5⟩
      clear a0 a1 a2 a3 a4 a5 a6 a7 a8 a9 a10 a11
      replace co := co.keep hb5
      replace fo := fo.keep hb5 lo
      have hW5 := then_ hWr hb5
      have OW5 := Lib.hid own5
      have lo5 := co.lt
      have o0 := co 0 _ rfl; have o1 := co 1 _ rfl
      have f0 := fo 0; have f1 := fo 1
      have CO := Lib.hid co
      have le1 : w.heap.size ≤ w.heap.size + 1 := Nat.le_succ _
      clear own5 co
      go_wp2
      clear o0 o1
      have co := (CO.out.put 0 (.int .i64 s.sz)).put 1 (.slice A5 N c5)
      have o0 := co 0 _ rfl; have o1 := co 1 _ rfl
      exact bodyPost_ret (v := .tuple #[.agg #[.int .i64 s.sz, .slice A5 N c5], .bool true]) (by simp [results, Tryz.results11, go_sem, o0, o1]) rfl ⟨⟨A5, c5, rfl, owns_mono (own_setp (own_setp OW5.out lo 0 _) lo 1 _) (by omega)⟩, (hW5.setCell (p := ⟨w.heap.size + 1, 0, none⟩) le1 _).setCell (p := ⟨w.heap.size + 1, 1, none⟩) le1 _⟩
end Go.Proofs.YthlphmojldbpkaaGreat
