/- SEv · SEvI · NewS -/
import Derived.Test.YthlphmojldbpkaaGreatM15
import Derived.Test.YthlphmojldbpkaaGreatM3
import Derived.Test.YthlphmojldbpkaaGreatSpT
import Derived.Test.YthlphmojldbpkaaGreatM1
import Derived.Test.YthlphmojldbpkaaGreatM0

/- IsShard, l6Bare, IsEvent: the specification's. -/
namespace Go.Proofs.YthlphmojldbpkaaGreat
open Go.RowKit
attribute [local go_sem] run_store_float run_store_complex

set_option maxHeartbeats 4000000 in
theorem specIsShard_yes (s : Sh) (w : World) (h : okSh s = true) :
    Calls Tryz.prog 131 #[.agg #[.complex .f32 s.1.1 s.1.2, .complex .f32 s.2.1.1 s.2.1.2, .complex .f32 s.2.2.1.1 s.2.2.1.2, .float .f32 s.2.2.2.1.1, .float .f32 s.2.2.2.1.2.1, .float .f32 s.2.2.2.1.2.2, .float .f32 s.2.2.2.2]] w fun e w' => e = .returned (.bool true) ∧ Below w.heap.size w w' := by
  obtain ⟨h1, h2, h3, h4, h5⟩ := okSh_parts h
  clear h
  go_enter Tryz.func131, Tryz.ntmps131
  go_wp2_with fail
  have hW := Below.refl w.heap.size w
  have ca := CA.new w #[.complex .f32 s.1.1 s.1.2, .complex .f32 s.2.1.1 s.2.1.2, .complex .f32 s.2.2.1.1 s.2.2.1.2, .float .f32 s.2.2.2.1.1, .float .f32 s.2.2.2.1.2.1, .float .f32 s.2.2.2.1.2.2, .float .f32 s.2.2.2.2] 36; have fa := FA.new w #[.complex .f32 s.1.1 s.1.2, .complex .f32 s.2.1.1 s.2.1.2, .complex .f32 s.2.2.1.1 s.2.2.1.2, .float .f32 s.2.2.2.1.1, .float .f32 s.2.2.2.1.2.1, .float .f32 s.2.2.2.1.2.2, .float .f32 s.2.2.2.2] 36; replace hW := hW.alloc (hW.size) (Obj.cells #[.complex .f32 s.1.1 s.1.2, .complex .f32 s.2.1.1 s.2.1.2, .complex .f32 s.2.2.1.1 s.2.2.1.2, .float .f32 s.2.2.2.1.1, .float .f32 s.2.2.2.1.2.1, .float .f32 s.2.2.2.1.2.2, .float .f32 s.2.2.2.2] 36); obtain ⟨V, hVe⟩ : ∃ V, V = w.alloc (Obj.cells #[.complex .f32 s.1.1 s.1.2, .complex .f32 s.2.1.1 s.2.1.2, .complex .f32 s.2.2.1.1 s.2.2.1.2, .float .f32 s.2.2.2.1.1, .float .f32 s.2.2.2.1.2.1, .float .f32 s.2.2.2.1.2.2, .float .f32 s.2.2.2.2] 36) := ⟨_, rfl⟩; have zV : V.heap.size = w.heap.size + 1 := (by rw [hVe]; simp); rw [← hVe] at ca fa hW; rw [← hVe]; clear hVe; have la := ca.lt
  (with_reducible refine (specIsPoint_any s.1.1 s.1.2 _).mono ?_)
  rw [h1]
  rintro e w' ⟨rfl, n1, rfl⟩
  have a0 := ca 0 _ rfl; have a1 := ca 1 _ rfl; have a2 := ca 2 _ rfl; have a3 := ca 3 _ rfl; have a4 := ca 4 _ rfl; have a5 := ca 5 _ rfl; have a6 := ca 6 _ rfl
  go_wp2_with fail
  (with_reducible refine (specIsPoint_any s.2.1.1 s.2.1.2 _).mono ?_)
  rw [h2]
  rintro e w' ⟨rfl, n2, rfl⟩
  go_wp2_with fail
  (with_reducible refine (specIsPoint_any s.2.2.1.1 s.2.2.1.2 _).mono ?_)
  rw [h3]
  rintro e w' ⟨rfl, n3, rfl⟩
  go_wp2_with fail
  (with_reducible refine (specIsColour_any s.2.2.2.1.1 s.2.2.2.1.2.1 s.2.2.2.1.2.2 _).mono ?_)
  rw [h4]
  rintro e w1 ⟨rfl, hb⟩
  have hb' : Below V.heap.size V w1 := (below_drewN (Below.refl _ _) _).trans hb
  have a6 := keepC a6 hb'
  have la := (show w.heap.size < w1.heap.size from World.block_lt_of_cell? _ _ a6)
  have hW1 := then_ hW hb'
  clear a0 a1 a2 a3 a4 a5 hb hb'
  go_wp2_with fail
  (with_reducible refine (l2Part_any _ _).mono ?_)
  rw [h5]
  rintro e w' ⟨rfl, n4, rfl⟩
  go_wp2
  go_ret
  exact ⟨rfl, below_drewN hW1 _⟩

theorem run_eql_sh0 (w : World) : (binOp .eql 36 (.agg #[.complex .f32 0 0, .complex .f32 0 0, .complex .f32 0 0, .float .f32 0, .float .f32 0, .float .f32 0, .float .f32 0]) (.agg #[.complex .f32 0 0, .complex .f32 0 0, .complex .f32 0 0, .float .f32 0, .float .f32 0, .float .f32 0, .float .f32 0])).run Tryz.prog w = .ok (.bool true) w := by
  rw [run_eql_struct]
  have := shSelf 9997 sh0 w ok_sh0
  simp only [shC, sh0] at this
  rw [show (10000 : Nat) = 9997 + 3 from rfl, this]
  rfl
theorem run_eql_col0 (w : World) : (binOp .eql 26 (.agg #[.float .f32 0, .float .f32 0, .float .f32 0]) (.agg #[.float .f32 0, .float .f32 0, .float .f32 0])).run Tryz.prog w = .ok (.bool true) w := by
  rw [run_eql_struct, show (10000 : Nat) = 9998 + 2 from rfl, run_eqIn_col 9998 0 0 0 0 0 0 w, col_self ok_col0]
  rfl
set_option maxHeartbeats 8000000 in
theorem l6Bare_yes (k nn : Int) (z : Pt) (s : Sh) (c : Col) (f1 f2 f3 f4 : Bool) (w : World) (h1 : f1 = false → nn = 0) (h2 : f2 = false → z = (0, 0)) (h3 : f3 = false → s = sh0) (h4 : f4 = false → c = (0, 0, 0)) :
    Calls Tryz.prog 133 #[.agg (evX k nn z s c), .bool f1, .bool f2, .bool f3, .bool f4] w fun r w' => r = .returned (.bool true) ∧ Below w.heap.size w w' := by
  have ks := fun wx => run_eql_sh0 wx
  have kc := fun wx => run_eql_col0 wx
  have e0 : (FloatKind.f32.format.order 0 0 == some .eq) = true := eq_self (by decide)
  unfold evX
  cases f1 <;> cases f2 <;> cases f3 <;> cases f4
  all_goals
    (try have g1 := h1 rfl)
    (try have g2 := h2 rfl)
    (try have g3 := h3 rfl)
    (try have g4 := h4 rfl)
    clear h1 h2 h3 h4
    (try subst g1)
    (try subst g2)
    (try subst g3)
    (try subst g4)
    (try simp only [sh0])
    go_enter Tryz.func133, Tryz.ntmps133
    go_wp2
    go_ret
    exact ⟨rfl, by (repeat (first | with_reducible assumption | exact Below.refl _ _ | (refine Below.setCell ?_ (by first | exact Nat.le_refl _ | (simp; done) | omega | (simp; omega)) _) | (refine below_drewN ?_ _) | (refine Below.drew ?_) | (refine Below.alloc ?_ (by first | exact Nat.le_refl _ | (simp; done) | omega | (simp; omega)) _) | (refine then_ ?_ (by with_reducible assumption)) | assumption | (refine then_ ?_ (by assumption))))⟩
end Go.Proofs.YthlphmojldbpkaaGreat

/- IsEvent: the specification's. -/
namespace Go.Proofs.YthlphmojldbpkaaGreat
open Go.RowKit
attribute [local go_sem] run_store_float run_store_complex

set_option maxHeartbeats 4000000 in
theorem sev_add (e : Ev) (w : World) (hk : e.k = 1) (hsh : okSh e.s = true) (hzp : pointB e.z.1 e.z.2 = true) (hn : e.n = 0) (hc : e.c = (0, 0, 0)) :
    Calls Tryz.prog 99 #[.agg #[.int .i64 e.k, .int .i64 e.n, .complex .f32 e.z.1 e.z.2, .complex .f32 e.s.1.1 e.s.1.2, .complex .f32 e.s.2.1.1 e.s.2.1.2, .complex .f32 e.s.2.2.1.1 e.s.2.2.1.2, .float .f32 e.s.2.2.2.1.1, .float .f32 e.s.2.2.2.1.2.1, .float .f32 e.s.2.2.2.1.2.2, .float .f32 e.s.2.2.2.2, .float .f32 e.c.1, .float .f32 e.c.2.1, .float .f32 e.c.2.2]] w fun r w' => r = .returned (.bool true) ∧ Below w.heap.size w w' := by
  have k1 : (e.k == 1) = true := by rw [hk]; rfl
  have KB := Lib.hid (fun w => l6Bare_yes e.k e.n e.z e.s e.c false true true false w (fun _ => hn) (fun h => by cases h) (fun h => by cases h) (fun _ => hc))
  unfold evX at KB
  have KSH := Lib.hid (fun w => specIsShard_yes e.s w hsh)
  clear hk hsh hn hc
  go_enter Tryz.func99, Tryz.ntmps99
  go_upto_region 1 with fail
  have hW := Below.refl w.heap.size w
  have ca := CA.new w #[.int .i64 e.k, .int .i64 e.n, .complex .f32 e.z.1 e.z.2, .complex .f32 e.s.1.1 e.s.1.2, .complex .f32 e.s.2.1.1 e.s.2.1.2, .complex .f32 e.s.2.2.1.1 e.s.2.2.1.2, .float .f32 e.s.2.2.2.1.1, .float .f32 e.s.2.2.2.1.2.1, .float .f32 e.s.2.2.2.1.2.2, .float .f32 e.s.2.2.2.2, .float .f32 e.c.1, .float .f32 e.c.2.1, .float .f32 e.c.2.2] 38; have fa := FA.new w #[.int .i64 e.k, .int .i64 e.n, .complex .f32 e.z.1 e.z.2, .complex .f32 e.s.1.1 e.s.1.2, .complex .f32 e.s.2.1.1 e.s.2.1.2, .complex .f32 e.s.2.2.1.1 e.s.2.2.1.2, .float .f32 e.s.2.2.2.1.1, .float .f32 e.s.2.2.2.1.2.1, .float .f32 e.s.2.2.2.1.2.2, .float .f32 e.s.2.2.2.2, .float .f32 e.c.1, .float .f32 e.c.2.1, .float .f32 e.c.2.2] 38; replace hW := hW.alloc (hW.size) (Obj.cells #[.int .i64 e.k, .int .i64 e.n, .complex .f32 e.z.1 e.z.2, .complex .f32 e.s.1.1 e.s.1.2, .complex .f32 e.s.2.1.1 e.s.2.1.2, .complex .f32 e.s.2.2.1.1 e.s.2.2.1.2, .float .f32 e.s.2.2.2.1.1, .float .f32 e.s.2.2.2.1.2.1, .float .f32 e.s.2.2.2.1.2.2, .float .f32 e.s.2.2.2.2, .float .f32 e.c.1, .float .f32 e.c.2.1, .float .f32 e.c.2.2] 38); obtain ⟨V, hVe⟩ : ∃ V, V = w.alloc (Obj.cells #[.int .i64 e.k, .int .i64 e.n, .complex .f32 e.z.1 e.z.2, .complex .f32 e.s.1.1 e.s.1.2, .complex .f32 e.s.2.1.1 e.s.2.1.2, .complex .f32 e.s.2.2.1.1 e.s.2.2.1.2, .float .f32 e.s.2.2.2.1.1, .float .f32 e.s.2.2.2.1.2.1, .float .f32 e.s.2.2.2.1.2.2, .float .f32 e.s.2.2.2.2, .float .f32 e.c.1, .float .f32 e.c.2.1, .float .f32 e.c.2.2] 38) := ⟨_, rfl⟩; have zV : V.heap.size = w.heap.size + 1 := (by rw [hVe]; simp); rw [← hVe] at ca fa hW; rw [← hVe]; clear hVe; have la := ca.lt
  have a0 := ca 0 _ rfl
  go_upto_region 3 with fail
  clear a0
  have a0 := ca 0 _ rfl; have a1 := ca 1 _ rfl; have a2 := ca 2 _ rfl; have a3 := ca 3 _ rfl; have a4 := ca 4 _ rfl; have a5 := ca 5 _ rfl; have a6 := ca 6 _ rfl; have a7 := ca 7 _ rfl; have a8 := ca 8 _ rfl; have a9 := ca 9 _ rfl; have a10 := ca 10 _ rfl; have a11 := ca 11 _ rfl; have a12 := ca 12 _ rfl
  go_wp2_with fail
  (with_reducible refine (KSH.out _).mono ?_)
  rintro r V ⟨rfl, hb⟩
  replace ca := ca.keep hb
  replace hW := then_ hW hb
  clear a0 a1 a2 a3 a4 a5 a6 a7 a8 a9 a10 a11 a12 hb la
  have la := ca.lt
  have a0 := ca 0 _ rfl; have a1 := ca 1 _ rfl; have a2 := ca 2 _ rfl; have a3 := ca 3 _ rfl; have a4 := ca 4 _ rfl; have a5 := ca 5 _ rfl; have a6 := ca 6 _ rfl; have a7 := ca 7 _ rfl; have a8 := ca 8 _ rfl; have a9 := ca 9 _ rfl; have a10 := ca 10 _ rfl; have a11 := ca 11 _ rfl; have a12 := ca 12 _ rfl
  go_wp2_with fail
  (with_reducible refine (specIsPoint_any e.z.1 e.z.2 _).mono ?_)
  rw [hzp]
  rintro r w' ⟨rfl, n1, rfl⟩
  replace ca := ca.drewN n1
  replace hW := below_drewN hW n1
  clear a0 a1 a2 a3 a4 a5 a6 a7 a8 a9 a10 a11 a12
  obtain ⟨X, hX⟩ : ∃ X, X = V.drewN n1 := ⟨_, rfl⟩
  rw [← hX] at ca hW
  rw [← hX]
  clear hX la
  have la := ca.lt
  have a0 := ca 0 _ rfl; have a1 := ca 1 _ rfl; have a2 := ca 2 _ rfl; have a3 := ca 3 _ rfl; have a4 := ca 4 _ rfl; have a5 := ca 5 _ rfl; have a6 := ca 6 _ rfl; have a7 := ca 7 _ rfl; have a8 := ca 8 _ rfl; have a9 := ca 9 _ rfl; have a10 := ca 10 _ rfl; have a11 := ca 11 _ rfl; have a12 := ca 12 _ rfl
  go_wp2_with fail
  (with_reducible refine (KB.out _).mono ?_)
  rintro r w9 ⟨rfl, hb9⟩
  have hW9 := then_ hW hb9
  go_wp2
  go_ret
  exact ⟨rfl, hW9⟩

set_option maxHeartbeats 4000000 in
theorem sev_take (e : Ev) (w : World) (hk : e.k = 2) (hz : e.z = (0, 0)) (hs : e.s = sh0) (hc : e.c = (0, 0, 0)) :
    Calls Tryz.prog 99 #[.agg #[.int .i64 e.k, .int .i64 e.n, .complex .f32 e.z.1 e.z.2, .complex .f32 e.s.1.1 e.s.1.2, .complex .f32 e.s.2.1.1 e.s.2.1.2, .complex .f32 e.s.2.2.1.1 e.s.2.2.1.2, .float .f32 e.s.2.2.2.1.1, .float .f32 e.s.2.2.2.1.2.1, .float .f32 e.s.2.2.2.1.2.2, .float .f32 e.s.2.2.2.2, .float .f32 e.c.1, .float .f32 e.c.2.1, .float .f32 e.c.2.2]] w fun r w' => r = .returned (.bool (inB e.n 0 7)) ∧ Below w.heap.size w w' := by
  have k1 : (e.k == 1) = false := by rw [hk]; rfl
  have k2 : (e.k == 2) = true := by rw [hk]; rfl
  have KB := Lib.hid (fun w => l6Bare_yes e.k e.n e.z e.s e.c true false false false w (fun h => by cases h) (fun _ => hz) (fun _ => hs) (fun _ => hc))
  unfold evX at KB
  clear hk hz hs hc
  go_enter Tryz.func99, Tryz.ntmps99
  go_upto_region 1 with fail
  have hW := Below.refl w.heap.size w
  have ca := CA.new w #[.int .i64 e.k, .int .i64 e.n, .complex .f32 e.z.1 e.z.2, .complex .f32 e.s.1.1 e.s.1.2, .complex .f32 e.s.2.1.1 e.s.2.1.2, .complex .f32 e.s.2.2.1.1 e.s.2.2.1.2, .float .f32 e.s.2.2.2.1.1, .float .f32 e.s.2.2.2.1.2.1, .float .f32 e.s.2.2.2.1.2.2, .float .f32 e.s.2.2.2.2, .float .f32 e.c.1, .float .f32 e.c.2.1, .float .f32 e.c.2.2] 38; have fa := FA.new w #[.int .i64 e.k, .int .i64 e.n, .complex .f32 e.z.1 e.z.2, .complex .f32 e.s.1.1 e.s.1.2, .complex .f32 e.s.2.1.1 e.s.2.1.2, .complex .f32 e.s.2.2.1.1 e.s.2.2.1.2, .float .f32 e.s.2.2.2.1.1, .float .f32 e.s.2.2.2.1.2.1, .float .f32 e.s.2.2.2.1.2.2, .float .f32 e.s.2.2.2.2, .float .f32 e.c.1, .float .f32 e.c.2.1, .float .f32 e.c.2.2] 38; replace hW := hW.alloc (hW.size) (Obj.cells #[.int .i64 e.k, .int .i64 e.n, .complex .f32 e.z.1 e.z.2, .complex .f32 e.s.1.1 e.s.1.2, .complex .f32 e.s.2.1.1 e.s.2.1.2, .complex .f32 e.s.2.2.1.1 e.s.2.2.1.2, .float .f32 e.s.2.2.2.1.1, .float .f32 e.s.2.2.2.1.2.1, .float .f32 e.s.2.2.2.1.2.2, .float .f32 e.s.2.2.2.2, .float .f32 e.c.1, .float .f32 e.c.2.1, .float .f32 e.c.2.2] 38); obtain ⟨V, hVe⟩ : ∃ V, V = w.alloc (Obj.cells #[.int .i64 e.k, .int .i64 e.n, .complex .f32 e.z.1 e.z.2, .complex .f32 e.s.1.1 e.s.1.2, .complex .f32 e.s.2.1.1 e.s.2.1.2, .complex .f32 e.s.2.2.1.1 e.s.2.2.1.2, .float .f32 e.s.2.2.2.1.1, .float .f32 e.s.2.2.2.1.2.1, .float .f32 e.s.2.2.2.1.2.2, .float .f32 e.s.2.2.2.2, .float .f32 e.c.1, .float .f32 e.c.2.1, .float .f32 e.c.2.2] 38) := ⟨_, rfl⟩; have zV : V.heap.size = w.heap.size + 1 := (by rw [hVe]; simp); rw [← hVe] at ca fa hW; rw [← hVe]; clear hVe; have la := ca.lt
  have a0 := ca 0 _ rfl
  go_upto_region 5 with fail
  clear a0
  have a1 := ca 1 _ rfl
  go_wp2_with fail
  (with_reducible refine (l1In_any e.n 0 7 _).mono ?_)
  rintro r w' ⟨rfl, rfl⟩
  clear a1
  cases hin : inB e.n 0 7
  · go_wp2
    go_ret
    exact ⟨by rw [hin]; rfl, hW⟩
  · skip
    have a0 := ca 0 _ rfl; have a1 := ca 1 _ rfl; have a2 := ca 2 _ rfl; have a3 := ca 3 _ rfl; have a4 := ca 4 _ rfl; have a5 := ca 5 _ rfl; have a6 := ca 6 _ rfl; have a7 := ca 7 _ rfl; have a8 := ca 8 _ rfl; have a9 := ca 9 _ rfl; have a10 := ca 10 _ rfl; have a11 := ca 11 _ rfl; have a12 := ca 12 _ rfl
    go_wp2_with fail
    (with_reducible refine (KB.out _).mono ?_)
    rintro r w9 ⟨rfl, hb9⟩
    have hW9 := then_ hW hb9
    go_wp2
    go_ret
    exact ⟨by rw [hin]; rfl, hW9⟩

set_option maxHeartbeats 4000000 in
theorem sev_light (e : Ev) (w : World) (hk : e.k = 3) (hcc : colB e.c = true) (hn : e.n = 0) (hz : e.z = (0, 0)) (hs : e.s = sh0) :
    Calls Tryz.prog 99 #[.agg #[.int .i64 e.k, .int .i64 e.n, .complex .f32 e.z.1 e.z.2, .complex .f32 e.s.1.1 e.s.1.2, .complex .f32 e.s.2.1.1 e.s.2.1.2, .complex .f32 e.s.2.2.1.1 e.s.2.2.1.2, .float .f32 e.s.2.2.2.1.1, .float .f32 e.s.2.2.2.1.2.1, .float .f32 e.s.2.2.2.1.2.2, .float .f32 e.s.2.2.2.2, .float .f32 e.c.1, .float .f32 e.c.2.1, .float .f32 e.c.2.2]] w fun r w' => r = .returned (.bool true) ∧ Below w.heap.size w w' := by
  have k1 : (e.k == 1) = false := by rw [hk]; rfl
  have k2 : (e.k == 2) = false := by rw [hk]; rfl
  have k3 : (e.k == 3) = true := by rw [hk]; rfl
  have KB := Lib.hid (fun w => l6Bare_yes e.k e.n e.z e.s e.c false false false true w (fun _ => hn) (fun _ => hz) (fun _ => hs) (fun h => by cases h))
  unfold evX at KB
  clear hk hn hz hs
  go_enter Tryz.func99, Tryz.ntmps99
  go_upto_region 1 with fail
  have hW := Below.refl w.heap.size w
  have ca := CA.new w #[.int .i64 e.k, .int .i64 e.n, .complex .f32 e.z.1 e.z.2, .complex .f32 e.s.1.1 e.s.1.2, .complex .f32 e.s.2.1.1 e.s.2.1.2, .complex .f32 e.s.2.2.1.1 e.s.2.2.1.2, .float .f32 e.s.2.2.2.1.1, .float .f32 e.s.2.2.2.1.2.1, .float .f32 e.s.2.2.2.1.2.2, .float .f32 e.s.2.2.2.2, .float .f32 e.c.1, .float .f32 e.c.2.1, .float .f32 e.c.2.2] 38; have fa := FA.new w #[.int .i64 e.k, .int .i64 e.n, .complex .f32 e.z.1 e.z.2, .complex .f32 e.s.1.1 e.s.1.2, .complex .f32 e.s.2.1.1 e.s.2.1.2, .complex .f32 e.s.2.2.1.1 e.s.2.2.1.2, .float .f32 e.s.2.2.2.1.1, .float .f32 e.s.2.2.2.1.2.1, .float .f32 e.s.2.2.2.1.2.2, .float .f32 e.s.2.2.2.2, .float .f32 e.c.1, .float .f32 e.c.2.1, .float .f32 e.c.2.2] 38; replace hW := hW.alloc (hW.size) (Obj.cells #[.int .i64 e.k, .int .i64 e.n, .complex .f32 e.z.1 e.z.2, .complex .f32 e.s.1.1 e.s.1.2, .complex .f32 e.s.2.1.1 e.s.2.1.2, .complex .f32 e.s.2.2.1.1 e.s.2.2.1.2, .float .f32 e.s.2.2.2.1.1, .float .f32 e.s.2.2.2.1.2.1, .float .f32 e.s.2.2.2.1.2.2, .float .f32 e.s.2.2.2.2, .float .f32 e.c.1, .float .f32 e.c.2.1, .float .f32 e.c.2.2] 38); obtain ⟨V, hVe⟩ : ∃ V, V = w.alloc (Obj.cells #[.int .i64 e.k, .int .i64 e.n, .complex .f32 e.z.1 e.z.2, .complex .f32 e.s.1.1 e.s.1.2, .complex .f32 e.s.2.1.1 e.s.2.1.2, .complex .f32 e.s.2.2.1.1 e.s.2.2.1.2, .float .f32 e.s.2.2.2.1.1, .float .f32 e.s.2.2.2.1.2.1, .float .f32 e.s.2.2.2.1.2.2, .float .f32 e.s.2.2.2.2, .float .f32 e.c.1, .float .f32 e.c.2.1, .float .f32 e.c.2.2] 38) := ⟨_, rfl⟩; have zV : V.heap.size = w.heap.size + 1 := (by rw [hVe]; simp); rw [← hVe] at ca fa hW; rw [← hVe]; clear hVe; have la := ca.lt
  have a0 := ca 0 _ rfl
  go_upto_region 7 with fail
  clear a0
  have a0 := ca 0 _ rfl; have a1 := ca 1 _ rfl; have a2 := ca 2 _ rfl; have a3 := ca 3 _ rfl; have a4 := ca 4 _ rfl; have a5 := ca 5 _ rfl; have a6 := ca 6 _ rfl; have a7 := ca 7 _ rfl; have a8 := ca 8 _ rfl; have a9 := ca 9 _ rfl; have a10 := ca 10 _ rfl; have a11 := ca 11 _ rfl; have a12 := ca 12 _ rfl
  go_wp2_with fail
  (with_reducible refine (specIsColour_any e.c.1 e.c.2.1 e.c.2.2 _).mono ?_)
  rw [show colB (e.c.1, e.c.2.1, e.c.2.2) = true from hcc]
  rintro r X ⟨rfl, hb⟩
  replace ca := ca.keep hb
  replace hW := then_ hW hb
  clear a0 a1 a2 a3 a4 a5 a6 a7 a8 a9 a10 a11 a12 hb la
  have la := ca.lt
  have a0 := ca 0 _ rfl; have a1 := ca 1 _ rfl; have a2 := ca 2 _ rfl; have a3 := ca 3 _ rfl; have a4 := ca 4 _ rfl; have a5 := ca 5 _ rfl; have a6 := ca 6 _ rfl; have a7 := ca 7 _ rfl; have a8 := ca 8 _ rfl; have a9 := ca 9 _ rfl; have a10 := ca 10 _ rfl; have a11 := ca 11 _ rfl; have a12 := ca 12 _ rfl
  go_wp2_with fail
  (with_reducible refine (KB.out _).mono ?_)
  rintro r w9 ⟨rfl, hb9⟩
  have hW9 := then_ hW hb9
  go_wp2
  go_ret
  exact ⟨rfl, hW9⟩

set_option maxHeartbeats 4000000 in
theorem sev_mirrors (e : Ev) (w : World) (hk : e.k = 4) (hz : e.z = (0, 0)) (hs : e.s = sh0) (hc : e.c = (0, 0, 0)) :
    Calls Tryz.prog 99 #[.agg #[.int .i64 e.k, .int .i64 e.n, .complex .f32 e.z.1 e.z.2, .complex .f32 e.s.1.1 e.s.1.2, .complex .f32 e.s.2.1.1 e.s.2.1.2, .complex .f32 e.s.2.2.1.1 e.s.2.2.1.2, .float .f32 e.s.2.2.2.1.1, .float .f32 e.s.2.2.2.1.2.1, .float .f32 e.s.2.2.2.1.2.2, .float .f32 e.s.2.2.2.2, .float .f32 e.c.1, .float .f32 e.c.2.1, .float .f32 e.c.2.2]] w fun r w' => r = .returned (.bool (inB e.n 0 3)) ∧ Below w.heap.size w w' := by
  have k1 : (e.k == 1) = false := by rw [hk]; rfl
  have k2 : (e.k == 2) = false := by rw [hk]; rfl
  have k3 : (e.k == 3) = false := by rw [hk]; rfl
  have k4 : (e.k == 4) = true := by rw [hk]; rfl
  have KB := Lib.hid (fun w => l6Bare_yes e.k e.n e.z e.s e.c true false false false w (fun h => by cases h) (fun _ => hz) (fun _ => hs) (fun _ => hc))
  unfold evX at KB
  clear hk hz hs hc
  go_enter Tryz.func99, Tryz.ntmps99
  go_upto_region 1 with fail
  have hW := Below.refl w.heap.size w
  have ca := CA.new w #[.int .i64 e.k, .int .i64 e.n, .complex .f32 e.z.1 e.z.2, .complex .f32 e.s.1.1 e.s.1.2, .complex .f32 e.s.2.1.1 e.s.2.1.2, .complex .f32 e.s.2.2.1.1 e.s.2.2.1.2, .float .f32 e.s.2.2.2.1.1, .float .f32 e.s.2.2.2.1.2.1, .float .f32 e.s.2.2.2.1.2.2, .float .f32 e.s.2.2.2.2, .float .f32 e.c.1, .float .f32 e.c.2.1, .float .f32 e.c.2.2] 38; have fa := FA.new w #[.int .i64 e.k, .int .i64 e.n, .complex .f32 e.z.1 e.z.2, .complex .f32 e.s.1.1 e.s.1.2, .complex .f32 e.s.2.1.1 e.s.2.1.2, .complex .f32 e.s.2.2.1.1 e.s.2.2.1.2, .float .f32 e.s.2.2.2.1.1, .float .f32 e.s.2.2.2.1.2.1, .float .f32 e.s.2.2.2.1.2.2, .float .f32 e.s.2.2.2.2, .float .f32 e.c.1, .float .f32 e.c.2.1, .float .f32 e.c.2.2] 38; replace hW := hW.alloc (hW.size) (Obj.cells #[.int .i64 e.k, .int .i64 e.n, .complex .f32 e.z.1 e.z.2, .complex .f32 e.s.1.1 e.s.1.2, .complex .f32 e.s.2.1.1 e.s.2.1.2, .complex .f32 e.s.2.2.1.1 e.s.2.2.1.2, .float .f32 e.s.2.2.2.1.1, .float .f32 e.s.2.2.2.1.2.1, .float .f32 e.s.2.2.2.1.2.2, .float .f32 e.s.2.2.2.2, .float .f32 e.c.1, .float .f32 e.c.2.1, .float .f32 e.c.2.2] 38); obtain ⟨V, hVe⟩ : ∃ V, V = w.alloc (Obj.cells #[.int .i64 e.k, .int .i64 e.n, .complex .f32 e.z.1 e.z.2, .complex .f32 e.s.1.1 e.s.1.2, .complex .f32 e.s.2.1.1 e.s.2.1.2, .complex .f32 e.s.2.2.1.1 e.s.2.2.1.2, .float .f32 e.s.2.2.2.1.1, .float .f32 e.s.2.2.2.1.2.1, .float .f32 e.s.2.2.2.1.2.2, .float .f32 e.s.2.2.2.2, .float .f32 e.c.1, .float .f32 e.c.2.1, .float .f32 e.c.2.2] 38) := ⟨_, rfl⟩; have zV : V.heap.size = w.heap.size + 1 := (by rw [hVe]; simp); rw [← hVe] at ca fa hW; rw [← hVe]; clear hVe; have la := ca.lt
  have a0 := ca 0 _ rfl
  go_upto_region 9 with fail
  clear a0
  have a1 := ca 1 _ rfl
  go_wp2_with fail
  (with_reducible refine (l1In_any e.n 0 3 _).mono ?_)
  rintro r w' ⟨rfl, rfl⟩
  clear a1
  cases hin : inB e.n 0 3
  · go_wp2
    go_ret
    exact ⟨by rw [hin]; rfl, hW⟩
  · skip
    have a0 := ca 0 _ rfl; have a1 := ca 1 _ rfl; have a2 := ca 2 _ rfl; have a3 := ca 3 _ rfl; have a4 := ca 4 _ rfl; have a5 := ca 5 _ rfl; have a6 := ca 6 _ rfl; have a7 := ca 7 _ rfl; have a8 := ca 8 _ rfl; have a9 := ca 9 _ rfl; have a10 := ca 10 _ rfl; have a11 := ca 11 _ rfl; have a12 := ca 12 _ rfl
    go_wp2_with fail
    (with_reducible refine (KB.out _).mono ?_)
    rintro r w9 ⟨rfl, hb9⟩
    have hW9 := then_ hW hb9
    go_wp2
    go_ret
    exact ⟨by rw [hin]; rfl, hW9⟩

set_option maxHeartbeats 4000000 in
theorem sev_gravity (e : Ev) (w : World) (hk : e.k = 5) (hzp : pointB e.z.1 e.z.2 = true) (hn : e.n = 0) (hs : e.s = sh0) (hc : e.c = (0, 0, 0)) :
    Calls Tryz.prog 99 #[.agg #[.int .i64 e.k, .int .i64 e.n, .complex .f32 e.z.1 e.z.2, .complex .f32 e.s.1.1 e.s.1.2, .complex .f32 e.s.2.1.1 e.s.2.1.2, .complex .f32 e.s.2.2.1.1 e.s.2.2.1.2, .float .f32 e.s.2.2.2.1.1, .float .f32 e.s.2.2.2.1.2.1, .float .f32 e.s.2.2.2.1.2.2, .float .f32 e.s.2.2.2.2, .float .f32 e.c.1, .float .f32 e.c.2.1, .float .f32 e.c.2.2]] w fun r w' => r = .returned (.bool true) ∧ Below w.heap.size w w' := by
  have k1 : (e.k == 1) = false := by rw [hk]; rfl
  have k2 : (e.k == 2) = false := by rw [hk]; rfl
  have k3 : (e.k == 3) = false := by rw [hk]; rfl
  have k4 : (e.k == 4) = false := by rw [hk]; rfl
  have k5 : (e.k == 5) = true := by rw [hk]; rfl
  have KB := Lib.hid (fun w => l6Bare_yes e.k e.n e.z e.s e.c false true false false w (fun _ => hn) (fun h => by cases h) (fun _ => hs) (fun _ => hc))
  unfold evX at KB
  clear hk hn hs hc
  go_enter Tryz.func99, Tryz.ntmps99
  go_upto_region 1 with fail
  have hW := Below.refl w.heap.size w
  have ca := CA.new w #[.int .i64 e.k, .int .i64 e.n, .complex .f32 e.z.1 e.z.2, .complex .f32 e.s.1.1 e.s.1.2, .complex .f32 e.s.2.1.1 e.s.2.1.2, .complex .f32 e.s.2.2.1.1 e.s.2.2.1.2, .float .f32 e.s.2.2.2.1.1, .float .f32 e.s.2.2.2.1.2.1, .float .f32 e.s.2.2.2.1.2.2, .float .f32 e.s.2.2.2.2, .float .f32 e.c.1, .float .f32 e.c.2.1, .float .f32 e.c.2.2] 38; have fa := FA.new w #[.int .i64 e.k, .int .i64 e.n, .complex .f32 e.z.1 e.z.2, .complex .f32 e.s.1.1 e.s.1.2, .complex .f32 e.s.2.1.1 e.s.2.1.2, .complex .f32 e.s.2.2.1.1 e.s.2.2.1.2, .float .f32 e.s.2.2.2.1.1, .float .f32 e.s.2.2.2.1.2.1, .float .f32 e.s.2.2.2.1.2.2, .float .f32 e.s.2.2.2.2, .float .f32 e.c.1, .float .f32 e.c.2.1, .float .f32 e.c.2.2] 38; replace hW := hW.alloc (hW.size) (Obj.cells #[.int .i64 e.k, .int .i64 e.n, .complex .f32 e.z.1 e.z.2, .complex .f32 e.s.1.1 e.s.1.2, .complex .f32 e.s.2.1.1 e.s.2.1.2, .complex .f32 e.s.2.2.1.1 e.s.2.2.1.2, .float .f32 e.s.2.2.2.1.1, .float .f32 e.s.2.2.2.1.2.1, .float .f32 e.s.2.2.2.1.2.2, .float .f32 e.s.2.2.2.2, .float .f32 e.c.1, .float .f32 e.c.2.1, .float .f32 e.c.2.2] 38); obtain ⟨V, hVe⟩ : ∃ V, V = w.alloc (Obj.cells #[.int .i64 e.k, .int .i64 e.n, .complex .f32 e.z.1 e.z.2, .complex .f32 e.s.1.1 e.s.1.2, .complex .f32 e.s.2.1.1 e.s.2.1.2, .complex .f32 e.s.2.2.1.1 e.s.2.2.1.2, .float .f32 e.s.2.2.2.1.1, .float .f32 e.s.2.2.2.1.2.1, .float .f32 e.s.2.2.2.1.2.2, .float .f32 e.s.2.2.2.2, .float .f32 e.c.1, .float .f32 e.c.2.1, .float .f32 e.c.2.2] 38) := ⟨_, rfl⟩; have zV : V.heap.size = w.heap.size + 1 := (by rw [hVe]; simp); rw [← hVe] at ca fa hW; rw [← hVe]; clear hVe; have la := ca.lt
  have a0 := ca 0 _ rfl
  go_upto_region 11 with fail
  clear a0
  have a0 := ca 0 _ rfl; have a1 := ca 1 _ rfl; have a2 := ca 2 _ rfl; have a3 := ca 3 _ rfl; have a4 := ca 4 _ rfl; have a5 := ca 5 _ rfl; have a6 := ca 6 _ rfl; have a7 := ca 7 _ rfl; have a8 := ca 8 _ rfl; have a9 := ca 9 _ rfl; have a10 := ca 10 _ rfl; have a11 := ca 11 _ rfl; have a12 := ca 12 _ rfl
  go_wp2_with fail
  (with_reducible refine (specIsPoint_any e.z.1 e.z.2 _).mono ?_)
  rw [hzp]
  rintro r w' ⟨rfl, n1, rfl⟩
  replace ca := ca.drewN n1
  replace hW := below_drewN hW n1
  clear a0 a1 a2 a3 a4 a5 a6 a7 a8 a9 a10 a11 a12
  obtain ⟨X, hX⟩ : ∃ X, X = V.drewN n1 := ⟨_, rfl⟩
  rw [← hX] at ca hW
  rw [← hX]
  clear hX la
  have la := ca.lt
  have a0 := ca 0 _ rfl; have a1 := ca 1 _ rfl; have a2 := ca 2 _ rfl; have a3 := ca 3 _ rfl; have a4 := ca 4 _ rfl; have a5 := ca 5 _ rfl; have a6 := ca 6 _ rfl; have a7 := ca 7 _ rfl; have a8 := ca 8 _ rfl; have a9 := ca 9 _ rfl; have a10 := ca 10 _ rfl; have a11 := ca 11 _ rfl; have a12 := ca 12 _ rfl
  go_wp2_with fail
  (with_reducible refine (KB.out _).mono ?_)
  rintro r w9 ⟨rfl, hb9⟩
  have hW9 := then_ hW hb9
  go_wp2
  go_ret
  exact ⟨rfl, hW9⟩

set_option maxHeartbeats 4000000 in
theorem sev_push (e : Ev) (w : World) (hk : e.k = 6) (hzp : pointB e.z.1 e.z.2 = true) (hs : e.s = sh0) (hc : e.c = (0, 0, 0)) :
    Calls Tryz.prog 99 #[.agg #[.int .i64 e.k, .int .i64 e.n, .complex .f32 e.z.1 e.z.2, .complex .f32 e.s.1.1 e.s.1.2, .complex .f32 e.s.2.1.1 e.s.2.1.2, .complex .f32 e.s.2.2.1.1 e.s.2.2.1.2, .float .f32 e.s.2.2.2.1.1, .float .f32 e.s.2.2.2.1.2.1, .float .f32 e.s.2.2.2.1.2.2, .float .f32 e.s.2.2.2.2, .float .f32 e.c.1, .float .f32 e.c.2.1, .float .f32 e.c.2.2]] w fun r w' => r = .returned (.bool (inB e.n 0 7)) ∧ Below w.heap.size w w' := by
  have k1 : (e.k == 1) = false := by rw [hk]; rfl
  have k2 : (e.k == 2) = false := by rw [hk]; rfl
  have k3 : (e.k == 3) = false := by rw [hk]; rfl
  have k4 : (e.k == 4) = false := by rw [hk]; rfl
  have k5 : (e.k == 5) = false := by rw [hk]; rfl
  have k6 : (e.k == 6) = true := by rw [hk]; rfl
  have KB := Lib.hid (fun w => l6Bare_yes e.k e.n e.z e.s e.c true true false false w (fun h => by cases h) (fun h => by cases h) (fun _ => hs) (fun _ => hc))
  unfold evX at KB
  clear hk hs hc
  go_enter Tryz.func99, Tryz.ntmps99
  go_upto_region 1 with fail
  have hW := Below.refl w.heap.size w
  have ca := CA.new w #[.int .i64 e.k, .int .i64 e.n, .complex .f32 e.z.1 e.z.2, .complex .f32 e.s.1.1 e.s.1.2, .complex .f32 e.s.2.1.1 e.s.2.1.2, .complex .f32 e.s.2.2.1.1 e.s.2.2.1.2, .float .f32 e.s.2.2.2.1.1, .float .f32 e.s.2.2.2.1.2.1, .float .f32 e.s.2.2.2.1.2.2, .float .f32 e.s.2.2.2.2, .float .f32 e.c.1, .float .f32 e.c.2.1, .float .f32 e.c.2.2] 38; have fa := FA.new w #[.int .i64 e.k, .int .i64 e.n, .complex .f32 e.z.1 e.z.2, .complex .f32 e.s.1.1 e.s.1.2, .complex .f32 e.s.2.1.1 e.s.2.1.2, .complex .f32 e.s.2.2.1.1 e.s.2.2.1.2, .float .f32 e.s.2.2.2.1.1, .float .f32 e.s.2.2.2.1.2.1, .float .f32 e.s.2.2.2.1.2.2, .float .f32 e.s.2.2.2.2, .float .f32 e.c.1, .float .f32 e.c.2.1, .float .f32 e.c.2.2] 38; replace hW := hW.alloc (hW.size) (Obj.cells #[.int .i64 e.k, .int .i64 e.n, .complex .f32 e.z.1 e.z.2, .complex .f32 e.s.1.1 e.s.1.2, .complex .f32 e.s.2.1.1 e.s.2.1.2, .complex .f32 e.s.2.2.1.1 e.s.2.2.1.2, .float .f32 e.s.2.2.2.1.1, .float .f32 e.s.2.2.2.1.2.1, .float .f32 e.s.2.2.2.1.2.2, .float .f32 e.s.2.2.2.2, .float .f32 e.c.1, .float .f32 e.c.2.1, .float .f32 e.c.2.2] 38); obtain ⟨V, hVe⟩ : ∃ V, V = w.alloc (Obj.cells #[.int .i64 e.k, .int .i64 e.n, .complex .f32 e.z.1 e.z.2, .complex .f32 e.s.1.1 e.s.1.2, .complex .f32 e.s.2.1.1 e.s.2.1.2, .complex .f32 e.s.2.2.1.1 e.s.2.2.1.2, .float .f32 e.s.2.2.2.1.1, .float .f32 e.s.2.2.2.1.2.1, .float .f32 e.s.2.2.2.1.2.2, .float .f32 e.s.2.2.2.2, .float .f32 e.c.1, .float .f32 e.c.2.1, .float .f32 e.c.2.2] 38) := ⟨_, rfl⟩; have zV : V.heap.size = w.heap.size + 1 := (by rw [hVe]; simp); rw [← hVe] at ca fa hW; rw [← hVe]; clear hVe; have la := ca.lt
  have a0 := ca 0 _ rfl
  go_upto_region 13 with fail
  clear a0
  have a1 := ca 1 _ rfl
  go_wp2_with fail
  (with_reducible refine (l1In_any e.n 0 7 _).mono ?_)
  rintro r w' ⟨rfl, rfl⟩
  clear a1
  cases hin : inB e.n 0 7
  · go_wp2
    go_ret
    exact ⟨by rw [hin]; rfl, hW⟩
  · skip
    have a0 := ca 0 _ rfl; have a1 := ca 1 _ rfl; have a2 := ca 2 _ rfl; have a3 := ca 3 _ rfl; have a4 := ca 4 _ rfl; have a5 := ca 5 _ rfl; have a6 := ca 6 _ rfl; have a7 := ca 7 _ rfl; have a8 := ca 8 _ rfl; have a9 := ca 9 _ rfl; have a10 := ca 10 _ rfl; have a11 := ca 11 _ rfl; have a12 := ca 12 _ rfl
    go_wp2_with fail
    (with_reducible refine (specIsPoint_any e.z.1 e.z.2 _).mono ?_)
    rw [hzp]
    rintro r w' ⟨rfl, n1, rfl⟩
    replace ca := ca.drewN n1
    replace hW := below_drewN hW n1
    clear a0 a1 a2 a3 a4 a5 a6 a7 a8 a9 a10 a11 a12
    obtain ⟨X, hX⟩ : ∃ X, X = V.drewN n1 := ⟨_, rfl⟩
    rw [← hX] at ca hW
    rw [← hX]
    clear hX la
    have la := ca.lt
    have a0 := ca 0 _ rfl; have a1 := ca 1 _ rfl; have a2 := ca 2 _ rfl; have a3 := ca 3 _ rfl; have a4 := ca 4 _ rfl; have a5 := ca 5 _ rfl; have a6 := ca 6 _ rfl; have a7 := ca 7 _ rfl; have a8 := ca 8 _ rfl; have a9 := ca 9 _ rfl; have a10 := ca 10 _ rfl; have a11 := ca 11 _ rfl; have a12 := ca 12 _ rfl
    go_wp2_with fail
    (with_reducible refine (KB.out _).mono ?_)
    rintro r w9 ⟨rfl, hb9⟩
    have hW9 := then_ hW hb9
    go_wp2
    go_ret
    exact ⟨by rw [hin]; rfl, hW9⟩

set_option maxHeartbeats 4000000 in
theorem sev_wait (e : Ev) (w : World) (hk : e.k = 7) (hz : e.z = (0, 0)) (hs : e.s = sh0) (hc : e.c = (0, 0, 0)) :
    Calls Tryz.prog 99 #[.agg #[.int .i64 e.k, .int .i64 e.n, .complex .f32 e.z.1 e.z.2, .complex .f32 e.s.1.1 e.s.1.2, .complex .f32 e.s.2.1.1 e.s.2.1.2, .complex .f32 e.s.2.2.1.1 e.s.2.2.1.2, .float .f32 e.s.2.2.2.1.1, .float .f32 e.s.2.2.2.1.2.1, .float .f32 e.s.2.2.2.1.2.2, .float .f32 e.s.2.2.2.2, .float .f32 e.c.1, .float .f32 e.c.2.1, .float .f32 e.c.2.2]] w fun r w' => r = .returned (.bool (inB e.n 1 32)) ∧ Below w.heap.size w w' := by
  have k1 : (e.k == 1) = false := by rw [hk]; rfl
  have k2 : (e.k == 2) = false := by rw [hk]; rfl
  have k3 : (e.k == 3) = false := by rw [hk]; rfl
  have k4 : (e.k == 4) = false := by rw [hk]; rfl
  have k5 : (e.k == 5) = false := by rw [hk]; rfl
  have k6 : (e.k == 6) = false := by rw [hk]; rfl
  have k7 : (e.k == 7) = true := by rw [hk]; rfl
  have KB := Lib.hid (fun w => l6Bare_yes e.k e.n e.z e.s e.c true false false false w (fun h => by cases h) (fun _ => hz) (fun _ => hs) (fun _ => hc))
  unfold evX at KB
  clear hk hz hs hc
  go_enter Tryz.func99, Tryz.ntmps99
  go_upto_region 1 with fail
  have hW := Below.refl w.heap.size w
  have ca := CA.new w #[.int .i64 e.k, .int .i64 e.n, .complex .f32 e.z.1 e.z.2, .complex .f32 e.s.1.1 e.s.1.2, .complex .f32 e.s.2.1.1 e.s.2.1.2, .complex .f32 e.s.2.2.1.1 e.s.2.2.1.2, .float .f32 e.s.2.2.2.1.1, .float .f32 e.s.2.2.2.1.2.1, .float .f32 e.s.2.2.2.1.2.2, .float .f32 e.s.2.2.2.2, .float .f32 e.c.1, .float .f32 e.c.2.1, .float .f32 e.c.2.2] 38; have fa := FA.new w #[.int .i64 e.k, .int .i64 e.n, .complex .f32 e.z.1 e.z.2, .complex .f32 e.s.1.1 e.s.1.2, .complex .f32 e.s.2.1.1 e.s.2.1.2, .complex .f32 e.s.2.2.1.1 e.s.2.2.1.2, .float .f32 e.s.2.2.2.1.1, .float .f32 e.s.2.2.2.1.2.1, .float .f32 e.s.2.2.2.1.2.2, .float .f32 e.s.2.2.2.2, .float .f32 e.c.1, .float .f32 e.c.2.1, .float .f32 e.c.2.2] 38; replace hW := hW.alloc (hW.size) (Obj.cells #[.int .i64 e.k, .int .i64 e.n, .complex .f32 e.z.1 e.z.2, .complex .f32 e.s.1.1 e.s.1.2, .complex .f32 e.s.2.1.1 e.s.2.1.2, .complex .f32 e.s.2.2.1.1 e.s.2.2.1.2, .float .f32 e.s.2.2.2.1.1, .float .f32 e.s.2.2.2.1.2.1, .float .f32 e.s.2.2.2.1.2.2, .float .f32 e.s.2.2.2.2, .float .f32 e.c.1, .float .f32 e.c.2.1, .float .f32 e.c.2.2] 38); obtain ⟨V, hVe⟩ : ∃ V, V = w.alloc (Obj.cells #[.int .i64 e.k, .int .i64 e.n, .complex .f32 e.z.1 e.z.2, .complex .f32 e.s.1.1 e.s.1.2, .complex .f32 e.s.2.1.1 e.s.2.1.2, .complex .f32 e.s.2.2.1.1 e.s.2.2.1.2, .float .f32 e.s.2.2.2.1.1, .float .f32 e.s.2.2.2.1.2.1, .float .f32 e.s.2.2.2.1.2.2, .float .f32 e.s.2.2.2.2, .float .f32 e.c.1, .float .f32 e.c.2.1, .float .f32 e.c.2.2] 38) := ⟨_, rfl⟩; have zV : V.heap.size = w.heap.size + 1 := (by rw [hVe]; simp); rw [← hVe] at ca fa hW; rw [← hVe]; clear hVe; have la := ca.lt
  have a0 := ca 0 _ rfl
  go_upto_region 15 with fail
  clear a0
  have a1 := ca 1 _ rfl
  go_wp2_with fail
  (with_reducible refine (l1In_any e.n 1 32 _).mono ?_)
  rintro r w' ⟨rfl, rfl⟩
  clear a1
  cases hin : inB e.n 1 32
  · go_wp2
    go_ret
    exact ⟨by rw [hin]; rfl, hW⟩
  · skip
    have a0 := ca 0 _ rfl; have a1 := ca 1 _ rfl; have a2 := ca 2 _ rfl; have a3 := ca 3 _ rfl; have a4 := ca 4 _ rfl; have a5 := ca 5 _ rfl; have a6 := ca 6 _ rfl; have a7 := ca 7 _ rfl; have a8 := ca 8 _ rfl; have a9 := ca 9 _ rfl; have a10 := ca 10 _ rfl; have a11 := ca 11 _ rfl; have a12 := ca 12 _ rfl
    go_wp2_with fail
    (with_reducible refine (KB.out _).mono ?_)
    rintro r w9 ⟨rfl, hb9⟩
    have hW9 := then_ hW hb9
    go_wp2
    go_ret
    exact ⟨by rw [hin]; rfl, hW9⟩

theorem specIsEvent_any (e : Ev) (w : World) (hg : evG e = true) :
    Calls Tryz.prog 99 #[.agg #[.int .i64 e.k, .int .i64 e.n, .complex .f32 e.z.1 e.z.2, .complex .f32 e.s.1.1 e.s.1.2, .complex .f32 e.s.2.1.1 e.s.2.1.2, .complex .f32 e.s.2.2.1.1 e.s.2.2.1.2, .float .f32 e.s.2.2.2.1.1, .float .f32 e.s.2.2.2.1.2.1, .float .f32 e.s.2.2.2.1.2.2, .float .f32 e.s.2.2.2.2, .float .f32 e.c.1, .float .f32 e.c.2.1, .float .f32 e.c.2.2]] w fun r w' => r = .returned (.bool (evR e)) ∧ Below w.heap.size w w' := by
  cases e with
  | add s z =>
    simp only [evG] at hg
    simp only [Bool.and_eq_true] at hg
    exact sev_add (.add s z) w rfl hg.1 (okW_32 hg.2.1 hg.2.2).2 rfl rfl
  | take n => exact sev_take (.take n) w rfl rfl rfl rfl
  | light c => exact sev_light (.light c) w rfl hg rfl rfl rfl
  | mirrors n => exact sev_mirrors (.mirrors n) w rfl rfl rfl rfl
  | gravity z => exact sev_gravity (.gravity z) w rfl hg rfl rfl rfl
  | push n z =>
    simp only [evG] at hg
    simp only [Bool.and_eq_true] at hg
    exact sev_push (.push n z) w rfl (okW_32 hg.1 hg.2).2 rfl rfl
  | wait n => exact sev_wait (.wait n) w rfl rfl rfl rfl
end Go.Proofs.YthlphmojldbpkaaGreat

/- IsShow of a show without glass, beads and events; both versions. -/
namespace Go.Proofs.YthlphmojldbpkaaGreat
open Go.RowKit
attribute [local go_sem] run_store_float run_store_complex

def newOk (kind size : Int) (step r g b : Nat) : Bool := inB size 1 8 && (stpB step && (colB (r, g, b) && inB kind 0 3))
def bareV (kind : Int) : Value := .agg #[.int .i64 kind, .complex .f32 0 0, .float .f32 0, .slice none 0 0]
def newV (kind size : Int) (step r g b : Nat) : Value := .agg #[.int .i64 size, .float .f32 step, .float .f32 r, .float .f32 g, .float .f32 b, .slice none 0 0, .int .i64 kind, .complex .f32 0 0, .float .f32 0, .slice none 0 0, .int .i64 0, .slice none 0 0]

theorem indexShard_nil (F : Value) (w : World) :
    Calls Tryz.prog 138 #[.slice none 0 0, F] w fun e w' => e = .returned (.int .i64 (-1)) ∧ w = w' := by
  go_enter Tryz.func138, Tryz.ntmps138
  go_wp2
  go_loopw [8] (fun i wr => i = .int .i64 0 ∧ w = wr) (fun _ _ => 0)
  case atStart => exact ⟨rfl, rfl⟩
  case round =>
    obtain ⟨rfl, rfl⟩ := hrel
    go_wp2
    go_ret
    exact ⟨rfl, rfl⟩
theorem containsShard_nil (F : Value) (w : World) :
    Calls Tryz.prog 104 #[.slice none 0 0, F] w fun e w' => e = .returned (.bool false) ∧ w = w' := by
  go_enter Tryz.func104, Tryz.ntmps104
  go_wp2_with (go_at_call 138; refine (indexShard_nil _ _).mono ?_; rintro e w' ⟨rfl, rfl⟩)
  go_ret
  exact ⟨rfl, rfl⟩
theorem indexEvent_nil (F : Value) (w : World) :
    Calls Tryz.prog 108 #[.slice none 0 0, F] w fun e w' => e = .returned (.int .i64 (-1)) ∧ w = w' := by
  go_enter Tryz.func108, Tryz.ntmps108
  go_wp2
  go_loopw [8] (fun i wr => i = .int .i64 0 ∧ w = wr) (fun _ _ => 0)
  case atStart => exact ⟨rfl, rfl⟩
  case round =>
    obtain ⟨rfl, rfl⟩ := hrel
    go_wp2
    go_ret
    exact ⟨rfl, rfl⟩
theorem containsEvent_nil (F : Value) (w : World) :
    Calls Tryz.prog 73 #[.slice none 0 0, F] w fun e w' => e = .returned (.bool false) ∧ w = w' := by
  go_enter Tryz.func73, Tryz.ntmps73
  go_wp2_with (go_at_call 108; refine (indexEvent_nil _ _).mono ?_; rintro e w' ⟨rfl, rfl⟩)
  go_ret
  exact ⟨rfl, rfl⟩
theorem areShards_nil (w : World) :
    Calls Tryz.prog 71 #[.slice none 0 0] w fun e w' => e = .returned (.bool true) ∧ w = w' := by
  go_enter Tryz.func71, Tryz.ntmps71
  go_wp2_with (go_at_call 104; refine (containsShard_nil _ _).mono ?_; rintro e w' ⟨rfl, rfl⟩)
  go_ret
  exact ⟨rfl, rfl⟩
theorem rd_nil {α : Type} (enc : α → List Value) (sz : Nat) (w : World) : Rd enc sz w w.heap.size none 0 [] := ⟨rfl, fun h => by omega⟩
theorem tumB_nil (kind : Int) : tumB kind (0, 0) 0 [] = inB kind 0 3 := by
  have h1 : pointB 0 0 = true := by decide +kernel
  have h2 : partB 0 = true := by decide +kernel
  unfold tumB
  rw [h1, h2]
  simp
theorem isTumble_nil (kind : Int) (w : World) :
    Calls Tryz.prog 72 #[bareV kind] w fun e w' => e = .returned (.bool (inB kind 0 3)) ∧ Below w.heap.size w w' := by
  have := isTumble_any kind (0, 0) 0 none 0 0 [] w (by omega) (rd_nil _ _ _)
  rw [tumB_nil] at this
  exact this

set_option maxRecDepth 100000 in
set_option maxHeartbeats 4000000 in
theorem isShow_new (kind size : Int) (step r g b : Nat) (w : World) :
    Calls Tryz.prog 30 #[newV kind size step r g b] w fun e w' => e = .returned (.bool (newOk kind size step r g b)) ∧ Below w.heap.size w w' := by
  unfold newV
  cases h1 : inB size 1 8
  · have R := Lib.hid (show newOk kind size step r g b = false by unfold newOk; rw [h1]; rfl)
    go_enter Tryz.func30, Tryz.ntmps30
    go_wp2_with (go_at_call 49; (with_reducible refine (within_any size 1 8 _).mono ?_); rintro e w' ⟨rfl, rfl⟩; simp only [h1])
    go_ret
    exact ⟨by rw [R.out]; rfl, by (repeat (first | with_reducible assumption | exact Below.refl _ _ | (refine Below.setCell ?_ (by first | exact Nat.le_refl _ | (simp; done) | omega | (simp; omega)) _) | (refine below_drewN ?_ _) | (refine Below.drew ?_) | (refine Below.alloc ?_ (by first | exact Nat.le_refl _ | (simp; done) | omega | (simp; omega)) _) | (refine then_ ?_ (by with_reducible assumption)) | assumption | (refine then_ ?_ (by assumption))))⟩
  · cases h2 : stpB step
    · have R := Lib.hid (show newOk kind size step r g b = false by unfold newOk; rw [h1, h2]; rfl)
      go_enter Tryz.func30, Tryz.ntmps30
      go_wp2_with (first
        | (go_at_call 49; (with_reducible refine (within_any size 1 8 _).mono ?_); rintro e w' ⟨rfl, rfl⟩; simp only [h1])
        | (go_at_call 70; (with_reducible refine (isStep_any _ _).mono ?_); rintro e w' ⟨rfl, rfl⟩; simp only [h2]))
      go_ret
      exact ⟨by rw [R.out]; rfl, by (repeat (first | with_reducible assumption | exact Below.refl _ _ | (refine Below.setCell ?_ (by first | exact Nat.le_refl _ | (simp; done) | omega | (simp; omega)) _) | (refine below_drewN ?_ _) | (refine Below.drew ?_) | (refine Below.alloc ?_ (by first | exact Nat.le_refl _ | (simp; done) | omega | (simp; omega)) _) | (refine then_ ?_ (by with_reducible assumption)) | assumption | (refine then_ ?_ (by assumption))))⟩
    · cases h3 : colB (r, g, b)
      · have R := Lib.hid (show newOk kind size step r g b = false by unfold newOk; rw [h1, h2, h3]; rfl)
        go_enter Tryz.func30, Tryz.ntmps30
        go_wp2_with (first
          | (go_at_call 49; (with_reducible refine (within_any size 1 8 _).mono ?_); rintro e w' ⟨rfl, rfl⟩; simp only [h1])
          | (go_at_call 70; (with_reducible refine (isStep_any _ _).mono ?_); rintro e w' ⟨rfl, rfl⟩; simp only [h2])
          | (go_at_call 52; go_loud ((with_reducible refine (isColour_any r g b _).mono ?_); rintro e w1 ⟨rfl, hb1⟩; simp only [h3])))
        go_ret
        exact ⟨by rw [R.out]; rfl, by (repeat (first | with_reducible assumption | exact Below.refl _ _ | (refine Below.setCell ?_ (by first | exact Nat.le_refl _ | (simp; done) | omega | (simp; omega)) _) | (refine below_drewN ?_ _) | (refine Below.drew ?_) | (refine Below.alloc ?_ (by first | exact Nat.le_refl _ | (simp; done) | omega | (simp; omega)) _) | (refine then_ ?_ (by with_reducible assumption)) | assumption | (refine then_ ?_ (by assumption))))⟩
      · have KT := fun w => isTumble_nil kind w
        unfold bareV at KT
        have ht : inB 0 0 200 = true := by decide
        cases h4 : inB kind 0 3
        · have R := Lib.hid (show newOk kind size step r g b = false by unfold newOk; rw [h1, h2, h3, h4]; rfl)
          go_enter Tryz.func30, Tryz.ntmps30
          go_wp2_with (first
      | (go_at_call 49; (with_reducible refine (within_any size 1 8 _).mono ?_); rintro e w' ⟨rfl, rfl⟩; simp only [h1])
      | (go_at_call 49; (with_reducible refine (within_any 0 0 200 _).mono ?_); rintro e w' ⟨rfl, rfl⟩; simp only [ht])
      | (go_at_call 70; (with_reducible refine (isStep_any _ _).mono ?_); rintro e w' ⟨rfl, rfl⟩; simp only [h2])
      | (go_at_call 52; (with_reducible refine (isColour_any r g b _).mono ?_); rintro e w1 ⟨rfl, hb1⟩; simp only [h3]; have kc_0 := keepC (p := ⟨w.heap.size, 0, none⟩) (v := .int .i64 size) (by first | assumption | (simp [go_sem]; done) | (simp [go_sem, *]; done)) hb1; have kc_1 := keepC (p := ⟨w.heap.size, 1, none⟩) (v := .float .f32 step) (by first | assumption | (simp [go_sem]; done) | (simp [go_sem, *]; done)) hb1; have kc_2 := keepC (p := ⟨w.heap.size, 2, none⟩) (v := .float .f32 r) (by first | assumption | (simp [go_sem]; done) | (simp [go_sem, *]; done)) hb1; have kc_3 := keepC (p := ⟨w.heap.size, 3, none⟩) (v := .float .f32 g) (by first | assumption | (simp [go_sem]; done) | (simp [go_sem, *]; done)) hb1; have kc_4 := keepC (p := ⟨w.heap.size, 4, none⟩) (v := .float .f32 b) (by first | assumption | (simp [go_sem]; done) | (simp [go_sem, *]; done)) hb1; have kc_5 := keepC (p := ⟨w.heap.size, 5, none⟩) (v := .slice none 0 0) (by first | assumption | (simp [go_sem]; done) | (simp [go_sem, *]; done)) hb1; have kc_6 := keepC (p := ⟨w.heap.size, 6, none⟩) (v := .int .i64 kind) (by first | assumption | (simp [go_sem]; done) | (simp [go_sem, *]; done)) hb1; have kc_7 := keepC (p := ⟨w.heap.size, 7, none⟩) (v := .complex .f32 0 0) (by first | assumption | (simp [go_sem]; done) | (simp [go_sem, *]; done)) hb1; have kc_8 := keepC (p := ⟨w.heap.size, 8, none⟩) (v := .float .f32 0) (by first | assumption | (simp [go_sem]; done) | (simp [go_sem, *]; done)) hb1; have kc_9 := keepC (p := ⟨w.heap.size, 9, none⟩) (v := .slice none 0 0) (by first | assumption | (simp [go_sem]; done) | (simp [go_sem, *]; done)) hb1; have kc_10 := keepC (p := ⟨w.heap.size, 10, none⟩) (v := .int .i64 0) (by first | assumption | (simp [go_sem]; done) | (simp [go_sem, *]; done)) hb1; have kc_11 := keepC (p := ⟨w.heap.size, 11, none⟩) (v := .slice none 0 0) (by first | assumption | (simp [go_sem]; done) | (simp [go_sem, *]; done)) hb1; have lb_ := (show w.heap.size < _ from World.block_lt_of_cell? _ _ kc_0))
      | (go_at_call 71; (with_reducible refine (areShards_nil _).mono ?_); rintro e w' ⟨rfl, rfl⟩)
      | (go_at_call 72; (with_reducible refine (KT _).mono ?_); rintro e w2 ⟨rfl, hb2⟩; simp only [h4]; have kc_0 := keepC (p := ⟨w.heap.size, 0, none⟩) (v := .int .i64 size) (by first | assumption | (simp [go_sem]; done) | (simp [go_sem, *]; done)) hb2; have kc_1 := keepC (p := ⟨w.heap.size, 1, none⟩) (v := .float .f32 step) (by first | assumption | (simp [go_sem]; done) | (simp [go_sem, *]; done)) hb2; have kc_2 := keepC (p := ⟨w.heap.size, 2, none⟩) (v := .float .f32 r) (by first | assumption | (simp [go_sem]; done) | (simp [go_sem, *]; done)) hb2; have kc_3 := keepC (p := ⟨w.heap.size, 3, none⟩) (v := .float .f32 g) (by first | assumption | (simp [go_sem]; done) | (simp [go_sem, *]; done)) hb2; have kc_4 := keepC (p := ⟨w.heap.size, 4, none⟩) (v := .float .f32 b) (by first | assumption | (simp [go_sem]; done) | (simp [go_sem, *]; done)) hb2; have kc_5 := keepC (p := ⟨w.heap.size, 5, none⟩) (v := .slice none 0 0) (by first | assumption | (simp [go_sem]; done) | (simp [go_sem, *]; done)) hb2; have kc_6 := keepC (p := ⟨w.heap.size, 6, none⟩) (v := .int .i64 kind) (by first | assumption | (simp [go_sem]; done) | (simp [go_sem, *]; done)) hb2; have kc_7 := keepC (p := ⟨w.heap.size, 7, none⟩) (v := .complex .f32 0 0) (by first | assumption | (simp [go_sem]; done) | (simp [go_sem, *]; done)) hb2; have kc_8 := keepC (p := ⟨w.heap.size, 8, none⟩) (v := .float .f32 0) (by first | assumption | (simp [go_sem]; done) | (simp [go_sem, *]; done)) hb2; have kc_9 := keepC (p := ⟨w.heap.size, 9, none⟩) (v := .slice none 0 0) (by first | assumption | (simp [go_sem]; done) | (simp [go_sem, *]; done)) hb2; have kc_10 := keepC (p := ⟨w.heap.size, 10, none⟩) (v := .int .i64 0) (by first | assumption | (simp [go_sem]; done) | (simp [go_sem, *]; done)) hb2; have kc_11 := keepC (p := ⟨w.heap.size, 11, none⟩) (v := .slice none 0 0) (by first | assumption | (simp [go_sem]; done) | (simp [go_sem, *]; done)) hb2; have lb_ := (show w.heap.size < _ from World.block_lt_of_cell? _ _ kc_0))
      | (go_at_call 73; (with_reducible refine (containsEvent_nil _ _).mono ?_); rintro e w' ⟨rfl, rfl⟩))
          go_ret
          exact ⟨by rw [R.out]; rfl, by (repeat (first | with_reducible assumption | exact Below.refl _ _ | (refine Below.setCell ?_ (by first | exact Nat.le_refl _ | (simp; done) | omega | (simp; omega)) _) | (refine below_drewN ?_ _) | (refine Below.drew ?_) | (refine Below.alloc ?_ (by first | exact Nat.le_refl _ | (simp; done) | omega | (simp; omega)) _) | (refine then_ ?_ (by with_reducible assumption)) | assumption | (refine then_ ?_ (by assumption))))⟩
        · have R := Lib.hid (show newOk kind size step r g b = true by unfold newOk; rw [h1, h2, h3, h4]; rfl)
          go_enter Tryz.func30, Tryz.ntmps30
          go_wp2_with (first
      | (go_at_call 49; (with_reducible refine (within_any size 1 8 _).mono ?_); rintro e w' ⟨rfl, rfl⟩; simp only [h1])
      | (go_at_call 49; (with_reducible refine (within_any 0 0 200 _).mono ?_); rintro e w' ⟨rfl, rfl⟩; simp only [ht])
      | (go_at_call 70; (with_reducible refine (isStep_any _ _).mono ?_); rintro e w' ⟨rfl, rfl⟩; simp only [h2])
      | (go_at_call 52; (with_reducible refine (isColour_any r g b _).mono ?_); rintro e w1 ⟨rfl, hb1⟩; simp only [h3]; have kc_0 := keepC (p := ⟨w.heap.size, 0, none⟩) (v := .int .i64 size) (by first | assumption | (simp [go_sem]; done) | (simp [go_sem, *]; done)) hb1; have kc_1 := keepC (p := ⟨w.heap.size, 1, none⟩) (v := .float .f32 step) (by first | assumption | (simp [go_sem]; done) | (simp [go_sem, *]; done)) hb1; have kc_2 := keepC (p := ⟨w.heap.size, 2, none⟩) (v := .float .f32 r) (by first | assumption | (simp [go_sem]; done) | (simp [go_sem, *]; done)) hb1; have kc_3 := keepC (p := ⟨w.heap.size, 3, none⟩) (v := .float .f32 g) (by first | assumption | (simp [go_sem]; done) | (simp [go_sem, *]; done)) hb1; have kc_4 := keepC (p := ⟨w.heap.size, 4, none⟩) (v := .float .f32 b) (by first | assumption | (simp [go_sem]; done) | (simp [go_sem, *]; done)) hb1; have kc_5 := keepC (p := ⟨w.heap.size, 5, none⟩) (v := .slice none 0 0) (by first | assumption | (simp [go_sem]; done) | (simp [go_sem, *]; done)) hb1; have kc_6 := keepC (p := ⟨w.heap.size, 6, none⟩) (v := .int .i64 kind) (by first | assumption | (simp [go_sem]; done) | (simp [go_sem, *]; done)) hb1; have kc_7 := keepC (p := ⟨w.heap.size, 7, none⟩) (v := .complex .f32 0 0) (by first | assumption | (simp [go_sem]; done) | (simp [go_sem, *]; done)) hb1; have kc_8 := keepC (p := ⟨w.heap.size, 8, none⟩) (v := .float .f32 0) (by first | assumption | (simp [go_sem]; done) | (simp [go_sem, *]; done)) hb1; have kc_9 := keepC (p := ⟨w.heap.size, 9, none⟩) (v := .slice none 0 0) (by first | assumption | (simp [go_sem]; done) | (simp [go_sem, *]; done)) hb1; have kc_10 := keepC (p := ⟨w.heap.size, 10, none⟩) (v := .int .i64 0) (by first | assumption | (simp [go_sem]; done) | (simp [go_sem, *]; done)) hb1; have kc_11 := keepC (p := ⟨w.heap.size, 11, none⟩) (v := .slice none 0 0) (by first | assumption | (simp [go_sem]; done) | (simp [go_sem, *]; done)) hb1; have lb_ := (show w.heap.size < _ from World.block_lt_of_cell? _ _ kc_0))
      | (go_at_call 71; (with_reducible refine (areShards_nil _).mono ?_); rintro e w' ⟨rfl, rfl⟩)
      | (go_at_call 72; (with_reducible refine (KT _).mono ?_); rintro e w2 ⟨rfl, hb2⟩; simp only [h4]; have kc_0 := keepC (p := ⟨w.heap.size, 0, none⟩) (v := .int .i64 size) (by first | assumption | (simp [go_sem]; done) | (simp [go_sem, *]; done)) hb2; have kc_1 := keepC (p := ⟨w.heap.size, 1, none⟩) (v := .float .f32 step) (by first | assumption | (simp [go_sem]; done) | (simp [go_sem, *]; done)) hb2; have kc_2 := keepC (p := ⟨w.heap.size, 2, none⟩) (v := .float .f32 r) (by first | assumption | (simp [go_sem]; done) | (simp [go_sem, *]; done)) hb2; have kc_3 := keepC (p := ⟨w.heap.size, 3, none⟩) (v := .float .f32 g) (by first | assumption | (simp [go_sem]; done) | (simp [go_sem, *]; done)) hb2; have kc_4 := keepC (p := ⟨w.heap.size, 4, none⟩) (v := .float .f32 b) (by first | assumption | (simp [go_sem]; done) | (simp [go_sem, *]; done)) hb2; have kc_5 := keepC (p := ⟨w.heap.size, 5, none⟩) (v := .slice none 0 0) (by first | assumption | (simp [go_sem]; done) | (simp [go_sem, *]; done)) hb2; have kc_6 := keepC (p := ⟨w.heap.size, 6, none⟩) (v := .int .i64 kind) (by first | assumption | (simp [go_sem]; done) | (simp [go_sem, *]; done)) hb2; have kc_7 := keepC (p := ⟨w.heap.size, 7, none⟩) (v := .complex .f32 0 0) (by first | assumption | (simp [go_sem]; done) | (simp [go_sem, *]; done)) hb2; have kc_8 := keepC (p := ⟨w.heap.size, 8, none⟩) (v := .float .f32 0) (by first | assumption | (simp [go_sem]; done) | (simp [go_sem, *]; done)) hb2; have kc_9 := keepC (p := ⟨w.heap.size, 9, none⟩) (v := .slice none 0 0) (by first | assumption | (simp [go_sem]; done) | (simp [go_sem, *]; done)) hb2; have kc_10 := keepC (p := ⟨w.heap.size, 10, none⟩) (v := .int .i64 0) (by first | assumption | (simp [go_sem]; done) | (simp [go_sem, *]; done)) hb2; have kc_11 := keepC (p := ⟨w.heap.size, 11, none⟩) (v := .slice none 0 0) (by first | assumption | (simp [go_sem]; done) | (simp [go_sem, *]; done)) hb2; have lb_ := (show w.heap.size < _ from World.block_lt_of_cell? _ _ kc_0))
      | (go_at_call 73; (with_reducible refine (containsEvent_nil _ _).mono ?_); rintro e w' ⟨rfl, rfl⟩))
          go_ret
          exact ⟨by rw [R.out]; rfl, by (repeat (first | with_reducible assumption | exact Below.refl _ _ | (refine Below.setCell ?_ (by first | exact Nat.le_refl _ | (simp; done) | omega | (simp; omega)) _) | (refine below_drewN ?_ _) | (refine Below.drew ?_) | (refine Below.alloc ?_ (by first | exact Nat.le_refl _ | (simp; done) | omega | (simp; omega)) _) | (refine then_ ?_ (by with_reducible assumption)) | assumption | (refine then_ ?_ (by assumption))))⟩

/-! ### the specification's -/
theorem step_parts {x : Nat} : stpB x = (finB x && (!leB x 0 && !gtB x 1132462080)) := by
  rcases three x with h1 | h1 | h1
  · have f1 : finB 0 = true := by decide
    have f2 : finB 1132462080 = true := by decide
    unfold stpB
    rw [h1, gtB_fin h1 f1, leB_fin h1 f2, leB_fin h1 f1, gtB_fin h1 f2]
    rw [Bool.true_and, Bool.eq_iff_iff]
    simp only [Bool.and_eq_true, decide_eq_true_eq, Bool.not_eq_true', decide_eq_false_iff_not]
    omega
  · have e := read_inf h1
    have r1 : Ieee.single.read 1132462080 = .number false 8388608 (-15) := by decide
    have hf : finB x = false := by
      unfold finB; simp; omega
    rw [hf]
    simp only [stpB, gtB, leB, ordB, Ieee.Format.order, e, r1, read_zero, Ieee.Datum.order]
    cases (x / 2147483648 % 2 == 1) <;> decide
  · have hf : finB x = false := by
      unfold nanB at h1
      unfold finB
      simp at h1 ⊢; omega
    unfold stpB gtB
    rw [hf, ord_nan_left h1]
    rfl
theorem specAreShards_nil (w : World) :
    Calls Tryz.prog 129 #[.slice none 0 0] w fun e w' => e = .returned (.bool true) ∧ w = w' := by
  go_enter Tryz.func129, Tryz.ntmps129
  go_wp2
  go_loopw [7] (fun i wr => i = .int .i64 0 ∧ w = wr) (fun _ _ => 0)
  case atStart => exact ⟨rfl, rfl⟩
  case round =>
    obtain ⟨rfl, rfl⟩ := hrel
    go_wp2
    go_ret
    exact ⟨rfl, rfl⟩
end Go.Proofs.YthlphmojldbpkaaGreat
