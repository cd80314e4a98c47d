/- Replay · RunS -/
import Derived.Test.YthlphmojldbpkaaGreatRunI
import Derived.Test.YthlphmojldbpkaaGreatM6
import Derived.Test.YthlphmojldbpkaaGreatM32
import Derived.Test.YthlphmojldbpkaaGreatDoS

/- ReplayShow: the program's, of drawn shows. -/
namespace Go.Proofs.YthlphmojldbpkaaGreat
open Go.RowKit
attribute [local go_sem] run_store_float run_store_complex

theorem newOk_good {s : Shw} (h : Good s) : newOk 0 s.sz s.st 0 0 0 = true := by
  unfold newOk
  rw [h.sz, h.st, show colB (0, 0, 0) = true by decide +kernel]
  rfl
theorem rdS_new (w : World) (sz : Int) (st : Nat) : RdS w (newS sz st) none none none := ⟨Rd.nil_, Rd.nil_, Rd.nil_⟩
theorem OwnS.size {w : World} {base : Nat} {s : Shw} {A B L : Option Addr} {c d q : Nat} (_ : OwnS w base s A B L c d q) : True := trivial
theorem OwnS.alloc {w : World} {base : Nat} {s : Shw} {A B L : Option Addr} {c d q : Nat} (h : OwnS w base s A B L c d q) (_ : True) (o : Obj) : OwnS (w.alloc o) base s A B L c d q := h.below (Below.alloc (Below.refl _ _) (Nat.le_refl _) _)
/-- RunShow goes through where the plain run does -/
theorem runShow_all (s u : Shw) (es : List Ev) (A B L H : Option Addr) (c d q n nc : Nat) (w : World) (hg : Good s) (hk : okS s = true) (he : es.all evG = true) (hn : n ≤ 1000) (hr : RdS w s A B L) (rE : Rd evC 13 w w.heap.size H n es) (hu : runK s es n = some u) :
    Calls Tryz.prog 25 #[.agg #[.int .i64 s.sz, .float .f32 s.st, .float .f32 s.li.1, .float .f32 s.li.2.1, .float .f32 s.li.2.2, .slice A s.sh.length c, .int .i64 s.mir, .complex .f32 s.gr.1 s.gr.2, .float .f32 s.loss, .slice B s.bs.length d, .int .i64 s.tk, .slice L s.log.length q], .slice H n nc] w fun r w' => (∃ A B L c d q, r = .returned (.tuple #[.agg #[.int .i64 u.sz, .float .f32 u.st, .float .f32 u.li.1, .float .f32 u.li.2.1, .float .f32 u.li.2.2, .slice A u.sh.length c, .int .i64 u.mir, .complex .f32 u.gr.1 u.gr.2, .float .f32 u.loss, .slice B u.bs.length d, .int .i64 u.tk, .slice L u.log.length q], .int .i64 (n : Int)]) ∧ OwnS w' w.heap.size u A B L c d q) ∧ Below w.heap.size w w' := by
  refine (runShow_any s es A B L H c d q n nc w hg hk he hn hr rE).mono ?_
  rintro r w' ⟨⟨k, t, A1, B1, L1, c1, d1, q1, hrun, hkn, hc, rfl, own⟩, hb⟩
  obtain ⟨rfl, rfl⟩ := run_all hu hrun hkn hc
  exact ⟨⟨A1, B1, L1, c1, d1, q1, rfl, own⟩, hb⟩

set_option maxRecDepth 100000 in
set_option maxHeartbeats 8000000 in
theorem replayShow_any (s : Shw) (A B L : Option Addr) (c d q : Nat) (w : World) (hd : Drawn s) (hr : RdS w s A B L) :
    Calls Tryz.prog 9 #[.agg #[.int .i64 s.sz, .float .f32 s.st, .float .f32 s.li.1, .float .f32 s.li.2.1, .float .f32 s.li.2.2, .slice A s.sh.length c, .int .i64 s.mir, .complex .f32 s.gr.1 s.gr.2, .float .f32 s.loss, .slice B s.bs.length d, .int .i64 s.tk, .slice L s.log.length q]] w fun r w' => (∃ A B L c d q, r = .returned (.tuple #[.agg #[.int .i64 s.sz, .float .f32 s.st, .float .f32 s.li.1, .float .f32 s.li.2.1, .float .f32 s.li.2.2, .slice A s.sh.length c, .int .i64 s.mir, .complex .f32 s.gr.1 s.gr.2, .float .f32 s.loss, .slice B s.bs.length d, .int .i64 s.tk, .slice L s.log.length q], .bool true]) ∧ OwnS w' w.heap.size s A B L c d q) ∧ Below w.heap.size w w' := by
  obtain ⟨p1, p2, p3, p4⟩ := okS_parts.1 hd.ok
  have hg := hd.good
  have hl := hg.len
  have KI := Lib.hid (fun w (h : RdS w s A B L) => isShow_any s A B L s.sh.length c s.bs.length d s.log.length q w hg (by omega) (by omega) (by omega) h.1 h.2.1 h.2.2)
  rw [hd.ok] at KI
  have KN := fun w => newShow_any 0 s.sz s.st 0 0 0 w
  simp only [madeV, newOk_good hg, if_true, newV] at KN
  have KN := Lib.hid KN
  have ND : Good (newS s.sz s.st) ∧ okS (newS s.sz s.st) = true := ⟨new_good hg.sz hg.st, rfl⟩
  have KR := Lib.hid (fun w (h : Rd evC 13 w w.heap.size L s.log.length s.log) => (show Calls Tryz.prog 25 #[.agg #[.int .i64 s.sz, .float .f32 s.st, .float .f32 0, .float .f32 0, .float .f32 0, .slice none 0 0, .int .i64 0, .complex .f32 0 0, .float .f32 0, .slice none 0 0, .int .i64 0, .slice none 0 0], .slice L s.log.length q] w fun r w' => (∃ A B L c d q, r = .returned (.tuple #[.agg #[.int .i64 s.sz, .float .f32 s.st, .float .f32 s.li.1, .float .f32 s.li.2.1, .float .f32 s.li.2.2, .slice A s.sh.length c, .int .i64 s.mir, .complex .f32 s.gr.1 s.gr.2, .float .f32 s.loss, .slice B s.bs.length d, .int .i64 s.tk, .slice L s.log.length q], .int .i64 (s.log.length : Int)]) ∧ OwnS w' w.heap.size s A B L c d q) ∧ Below w.heap.size w w' from runShow_all (newS s.sz s.st) s s.log none none none L 0 0 0 s.log.length q w ND.1 ND.2 (good_evs hg) (by omega) (rdS_new _ _ _) h hd.run))
  have HR := Lib.hid hr
  have hlt : decide ((s.log.length : Int) < (s.log.length : Int)) = false := by simp
  clear hr hg hd p1 p2 p3 p4 hl ND
  go_enter Tryz.func9, Tryz.ntmps9
  go_upto_region 1 with fail
  have hW := Below.refl w.heap.size w
  have ca := CA.new w #[.int .i64 s.sz, .float .f32 s.st, .float .f32 s.li.1, .float .f32 s.li.2.1, .float .f32 s.li.2.2, .slice A s.sh.length c, .int .i64 s.mir, .complex .f32 s.gr.1 s.gr.2, .float .f32 s.loss, .slice B s.bs.length d, .int .i64 s.tk, .slice L s.log.length q] 34; have fa := FA.new w #[.int .i64 s.sz, .float .f32 s.st, .float .f32 s.li.1, .float .f32 s.li.2.1, .float .f32 s.li.2.2, .slice A s.sh.length c, .int .i64 s.mir, .complex .f32 s.gr.1 s.gr.2, .float .f32 s.loss, .slice B s.bs.length d, .int .i64 s.tk, .slice L s.log.length q] 34; replace hW := hW.alloc (hW.size) (Obj.cells #[.int .i64 s.sz, .float .f32 s.st, .float .f32 s.li.1, .float .f32 s.li.2.1, .float .f32 s.li.2.2, .slice A s.sh.length c, .int .i64 s.mir, .complex .f32 s.gr.1 s.gr.2, .float .f32 s.loss, .slice B s.bs.length d, .int .i64 s.tk, .slice L s.log.length q] 34); obtain ⟨V1, hV1e⟩ : ∃ V1, V1 = w.alloc (Obj.cells #[.int .i64 s.sz, .float .f32 s.st, .float .f32 s.li.1, .float .f32 s.li.2.1, .float .f32 s.li.2.2, .slice A s.sh.length c, .int .i64 s.mir, .complex .f32 s.gr.1 s.gr.2, .float .f32 s.loss, .slice B s.bs.length d, .int .i64 s.tk, .slice L s.log.length q] 34) := ⟨_, rfl⟩; have zV1 : V1.heap.size = w.heap.size + 1 := (by rw [hV1e]; simp); rw [← hV1e] at ca fa hW; rw [← hV1e]; clear hV1e; have la := ca.lt
  have co := CA.new V1 #[.int .i64 0, .float .f32 0, .float .f32 0, .float .f32 0, .float .f32 0, .slice none 0 0, .int .i64 0, .complex .f32 0 0, .float .f32 0, .slice none 0 0, .int .i64 0, .slice none 0 0] 34; have fo := FA.new V1 #[.int .i64 0, .float .f32 0, .float .f32 0, .float .f32 0, .float .f32 0, .slice none 0 0, .int .i64 0, .complex .f32 0 0, .float .f32 0, .slice none 0 0, .int .i64 0, .slice none 0 0] 34; replace ca := ca.alloc (Obj.cells #[.int .i64 0, .float .f32 0, .float .f32 0, .float .f32 0, .float .f32 0, .slice none 0 0, .int .i64 0, .complex .f32 0 0, .float .f32 0, .slice none 0 0, .int .i64 0, .slice none 0 0] 34); replace fa := fa.alloc la (Obj.cells #[.int .i64 0, .float .f32 0, .float .f32 0, .float .f32 0, .float .f32 0, .slice none 0 0, .int .i64 0, .complex .f32 0 0, .float .f32 0, .slice none 0 0, .int .i64 0, .slice none 0 0] 34); replace hW := hW.alloc (hW.size) (Obj.cells #[.int .i64 0, .float .f32 0, .float .f32 0, .float .f32 0, .float .f32 0, .slice none 0 0, .int .i64 0, .complex .f32 0 0, .float .f32 0, .slice none 0 0, .int .i64 0, .slice none 0 0] 34); obtain ⟨V, hVe⟩ : ∃ V, V = V1.alloc (Obj.cells #[.int .i64 0, .float .f32 0, .float .f32 0, .float .f32 0, .float .f32 0, .slice none 0 0, .int .i64 0, .complex .f32 0 0, .float .f32 0, .slice none 0 0, .int .i64 0, .slice none 0 0] 34) := ⟨_, rfl⟩; have zV : V.heap.size = V1.heap.size + 1 := (by rw [hVe]; simp); rw [← hVe] at co fo ca fa hW; rw [← hVe]; clear hVe; have lo := co.lt; replace la := ca.lt
  rw [zV1] at co fo lo zV
  clear zV1
  have a0 := ca 0 _ rfl; have a1 := ca 1 _ rfl; have a2 := ca 2 _ rfl; have a3 := ca 3 _ rfl; have a4 := ca 4 _ rfl; have a5 := ca 5 _ rfl; have a6 := ca 6 _ rfl; have a7 := ca 7 _ rfl; have a8 := ca 8 _ rfl; have a9 := ca 9 _ rfl; have a10 := ca 10 _ rfl; have a11 := ca 11 _ rfl
  go_wp2_with fail
  (with_reducible refine (KI.out _ (HR.out.step hW)).mono ?_)
  rintro r w1 ⟨rfl, hb1⟩
  clear a0 a1 a2 a3 a4 a5 a6 a7 a8 a9 a10 a11
  replace ca := ca.keep hb1; replace fa := fa.keep hb1 la; replace la := ca.lt; replace co := co.keep hb1; replace fo := fo.keep hb1 lo; replace lo := co.lt; replace hW := then_ hW hb1
  have a0 := ca 0 _ rfl; have a1 := ca 1 _ rfl; have a2 := ca 2 _ rfl; have a3 := ca 3 _ rfl; have a4 := ca 4 _ rfl; have a5 := ca 5 _ rfl; have a6 := ca 6 _ rfl; have a7 := ca 7 _ rfl; have a8 := ca 8 _ rfl; have a9 := ca 9 _ rfl; have a10 := ca 10 _ rfl; have a11 := ca 11 _ rfl
  clear hb1 KI
  go_wp2_with fail
  (with_reducible refine (KN.out _).mono ?_)
  rintro r w2 ⟨rfl, hb1⟩
  clear a0 a1 a2 a3 a4 a5 a6 a7 a8 a9 a10 a11
  replace ca := ca.keep hb1; replace fa := fa.keep hb1 la; replace la := ca.lt; replace co := co.keep hb1; replace fo := fo.keep hb1 lo; replace lo := co.lt; replace hW := then_ hW hb1
  have a0 := ca 0 _ rfl; have a1 := ca 1 _ rfl; have a2 := ca 2 _ rfl; have a3 := ca 3 _ rfl; have a4 := ca 4 _ rfl; have a5 := ca 5 _ rfl; have a6 := ca 6 _ rfl; have a7 := ca 7 _ rfl; have a8 := ca 8 _ rfl; have a9 := ca 9 _ rfl; have a10 := ca 10 _ rfl; have a11 := ca 11 _ rfl
  clear hb1 KN
  go_upto_region 4 with fail
  clear a0 a1 a2 a3 a4 a5 a6 a7 a8 a9 a10 a11
  have cn := CA.new w2 #[.int .i64 s.sz, .float .f32 s.st, .float .f32 0, .float .f32 0, .float .f32 0, .slice none 0 0, .int .i64 0, .complex .f32 0 0, .float .f32 0, .slice none 0 0, .int .i64 0, .slice none 0 0] 34; have fn := FA.new w2 #[.int .i64 s.sz, .float .f32 s.st, .float .f32 0, .float .f32 0, .float .f32 0, .slice none 0 0, .int .i64 0, .complex .f32 0 0, .float .f32 0, .slice none 0 0, .int .i64 0, .slice none 0 0] 34; replace ca := ca.alloc (Obj.cells #[.int .i64 s.sz, .float .f32 s.st, .float .f32 0, .float .f32 0, .float .f32 0, .slice none 0 0, .int .i64 0, .complex .f32 0 0, .float .f32 0, .slice none 0 0, .int .i64 0, .slice none 0 0] 34); replace fa := fa.alloc la (Obj.cells #[.int .i64 s.sz, .float .f32 s.st, .float .f32 0, .float .f32 0, .float .f32 0, .slice none 0 0, .int .i64 0, .complex .f32 0 0, .float .f32 0, .slice none 0 0, .int .i64 0, .slice none 0 0] 34); replace co := co.alloc (Obj.cells #[.int .i64 s.sz, .float .f32 s.st, .float .f32 0, .float .f32 0, .float .f32 0, .slice none 0 0, .int .i64 0, .complex .f32 0 0, .float .f32 0, .slice none 0 0, .int .i64 0, .slice none 0 0] 34); replace fo := fo.alloc lo (Obj.cells #[.int .i64 s.sz, .float .f32 s.st, .float .f32 0, .float .f32 0, .float .f32 0, .slice none 0 0, .int .i64 0, .complex .f32 0 0, .float .f32 0, .slice none 0 0, .int .i64 0, .slice none 0 0] 34); replace hW := hW.alloc (hW.size) (Obj.cells #[.int .i64 s.sz, .float .f32 s.st, .float .f32 0, .float .f32 0, .float .f32 0, .slice none 0 0, .int .i64 0, .complex .f32 0 0, .float .f32 0, .slice none 0 0, .int .i64 0, .slice none 0 0] 34); obtain ⟨V3, hV3e⟩ : ∃ V3, V3 = w2.alloc (Obj.cells #[.int .i64 s.sz, .float .f32 s.st, .float .f32 0, .float .f32 0, .float .f32 0, .slice none 0 0, .int .i64 0, .complex .f32 0 0, .float .f32 0, .slice none 0 0, .int .i64 0, .slice none 0 0] 34) := ⟨_, rfl⟩; have zV3 : V3.heap.size = w2.heap.size + 1 := (by rw [hV3e]; simp); rw [← hV3e] at cn fn ca fa co fo hW; rw [← hV3e]; clear hV3e; have ln := cn.lt; replace la := ca.lt; replace lo := co.lt
  have a0 := ca 0 _ rfl; have a1 := ca 1 _ rfl; have a2 := ca 2 _ rfl; have a3 := ca 3 _ rfl; have a4 := ca 4 _ rfl; have a5 := ca 5 _ rfl; have a6 := ca 6 _ rfl; have a7 := ca 7 _ rfl; have a8 := ca 8 _ rfl; have a9 := ca 9 _ rfl; have a10 := ca 10 _ rfl; have a11 := ca 11 _ rfl
  have n0 := cn 0 _ rfl; have n1 := cn 1 _ rfl; have n2 := cn 2 _ rfl; have n3 := cn 3 _ rfl; have n4 := cn 4 _ rfl; have n5 := cn 5 _ rfl; have n6 := cn 6 _ rfl; have n7 := cn 7 _ rfl; have n8 := cn 8 _ rfl; have n9 := cn 9 _ rfl; have n10 := cn 10 _ rfl; have n11 := cn 11 _ rfl
  go_wp2_with fail
  (with_reducible refine (KR.out _ (HR.out.step hW).rl).mono ?_)
  rintro r w3 ⟨⟨A1, B1, L1, c1, d1, q1, rfl, own⟩, hb1⟩
  clear a0 a1 a2 a3 a4 a5 a6 a7 a8 a9 a10 a11 n0 n1 n2 n3 n4 n5 n6 n7 n8 n9 n10 n11
  have z3 := zV3
  have lw0 : w.heap.size + 1 < V3.heap.size := lo
  replace ca := ca.keep hb1; replace fa := fa.keep hb1 la; replace la := ca.lt; replace co := co.keep hb1; replace fo := fo.keep hb1 lo; replace lo := co.lt; replace hW := then_ hW hb1
  have a0 := ca 0 _ rfl; have a1 := ca 1 _ rfl; have a2 := ca 2 _ rfl; have a3 := ca 3 _ rfl; have a4 := ca 4 _ rfl; have a5 := ca 5 _ rfl; have a6 := ca 6 _ rfl; have a7 := ca 7 _ rfl; have a8 := ca 8 _ rfl; have a9 := ca 9 _ rfl; have a10 := ca 10 _ rfl; have a11 := ca 11 _ rfl
  clear hb1 KR
  go_upto_region 5 with fail
  clear a0 a1 a2 a3 a4 a5 a6 a7 a8 a9 a10 a11
  have cm := CA.new w3 #[.int .i64 s.sz, .float .f32 s.st, .float .f32 s.li.1, .float .f32 s.li.2.1, .float .f32 s.li.2.2, .slice A1 s.sh.length c1, .int .i64 s.mir, .complex .f32 s.gr.1 s.gr.2, .float .f32 s.loss, .slice B1 s.bs.length d1, .int .i64 s.tk, .slice L1 s.log.length q1] 34; have fm := FA.new w3 #[.int .i64 s.sz, .float .f32 s.st, .float .f32 s.li.1, .float .f32 s.li.2.1, .float .f32 s.li.2.2, .slice A1 s.sh.length c1, .int .i64 s.mir, .complex .f32 s.gr.1 s.gr.2, .float .f32 s.loss, .slice B1 s.bs.length d1, .int .i64 s.tk, .slice L1 s.log.length q1] 34; replace ca := ca.alloc (Obj.cells #[.int .i64 s.sz, .float .f32 s.st, .float .f32 s.li.1, .float .f32 s.li.2.1, .float .f32 s.li.2.2, .slice A1 s.sh.length c1, .int .i64 s.mir, .complex .f32 s.gr.1 s.gr.2, .float .f32 s.loss, .slice B1 s.bs.length d1, .int .i64 s.tk, .slice L1 s.log.length q1] 34); replace fa := fa.alloc la (Obj.cells #[.int .i64 s.sz, .float .f32 s.st, .float .f32 s.li.1, .float .f32 s.li.2.1, .float .f32 s.li.2.2, .slice A1 s.sh.length c1, .int .i64 s.mir, .complex .f32 s.gr.1 s.gr.2, .float .f32 s.loss, .slice B1 s.bs.length d1, .int .i64 s.tk, .slice L1 s.log.length q1] 34); replace co := co.alloc (Obj.cells #[.int .i64 s.sz, .float .f32 s.st, .float .f32 s.li.1, .float .f32 s.li.2.1, .float .f32 s.li.2.2, .slice A1 s.sh.length c1, .int .i64 s.mir, .complex .f32 s.gr.1 s.gr.2, .float .f32 s.loss, .slice B1 s.bs.length d1, .int .i64 s.tk, .slice L1 s.log.length q1] 34); replace fo := fo.alloc lo (Obj.cells #[.int .i64 s.sz, .float .f32 s.st, .float .f32 s.li.1, .float .f32 s.li.2.1, .float .f32 s.li.2.2, .slice A1 s.sh.length c1, .int .i64 s.mir, .complex .f32 s.gr.1 s.gr.2, .float .f32 s.loss, .slice B1 s.bs.length d1, .int .i64 s.tk, .slice L1 s.log.length q1] 34); replace hW := hW.alloc (hW.size) (Obj.cells #[.int .i64 s.sz, .float .f32 s.st, .float .f32 s.li.1, .float .f32 s.li.2.1, .float .f32 s.li.2.2, .slice A1 s.sh.length c1, .int .i64 s.mir, .complex .f32 s.gr.1 s.gr.2, .float .f32 s.loss, .slice B1 s.bs.length d1, .int .i64 s.tk, .slice L1 s.log.length q1] 34); replace own := own.alloc (own.size) (Obj.cells #[.int .i64 s.sz, .float .f32 s.st, .float .f32 s.li.1, .float .f32 s.li.2.1, .float .f32 s.li.2.2, .slice A1 s.sh.length c1, .int .i64 s.mir, .complex .f32 s.gr.1 s.gr.2, .float .f32 s.loss, .slice B1 s.bs.length d1, .int .i64 s.tk, .slice L1 s.log.length q1] 34); obtain ⟨V5, hV5e⟩ : ∃ V5, V5 = w3.alloc (Obj.cells #[.int .i64 s.sz, .float .f32 s.st, .float .f32 s.li.1, .float .f32 s.li.2.1, .float .f32 s.li.2.2, .slice A1 s.sh.length c1, .int .i64 s.mir, .complex .f32 s.gr.1 s.gr.2, .float .f32 s.loss, .slice B1 s.bs.length d1, .int .i64 s.tk, .slice L1 s.log.length q1] 34) := ⟨_, rfl⟩; have zV5 : V5.heap.size = w3.heap.size + 1 := (by rw [hV5e]; simp); rw [← hV5e] at cm fm ca fa co fo hW own; rw [← hV5e]; clear hV5e; have lm := cm.lt; replace la := ca.lt; replace lo := co.lt
  have a0 := ca 0 _ rfl; have a1 := ca 1 _ rfl; have a2 := ca 2 _ rfl; have a3 := ca 3 _ rfl; have a4 := ca 4 _ rfl; have a5 := ca 5 _ rfl; have a6 := ca 6 _ rfl; have a7 := ca 7 _ rfl; have a8 := ca 8 _ rfl; have a9 := ca 9 _ rfl; have a10 := ca 10 _ rfl; have a11 := ca 11 _ rfl
  have m0 := cm 0 _ rfl; have m1 := cm 1 _ rfl; have m2 := cm 2 _ rfl; have m3 := cm 3 _ rfl; have m4 := cm 4 _ rfl; have m5 := cm 5 _ rfl; have m6 := cm 6 _ rfl; have m7 := cm 7 _ rfl; have m8 := cm 8 _ rfl; have m9 := cm 9 _ rfl; have m10 := cm 10 _ rfl; have m11 := cm 11 _ rfl
  have o0 := co 0 _ rfl; have o1 := co 1 _ rfl; have o2 := co 2 _ rfl; have o3 := co 3 _ rfl; have o4 := co 4 _ rfl; have o5 := co 5 _ rfl; have o6 := co 6 _ rfl; have o7 := co 7 _ rfl; have o8 := co 8 _ rfl; have o9 := co 9 _ rfl; have o10 := co 10 _ rfl; have o11 := co 11 _ rfl
  have f0 := fo 0; have f1 := fo 1; have f2 := fo 2; have f3 := fo 3; have f4 := fo 4; have f5 := fo 5; have f6 := fo 6; have f7 := fo 7; have f8 := fo 8; have f9 := fo 9; have f10 := fo 10; have f11 := fo 11
  have OW := Lib.hid own
  have CO := Lib.hid co
  clear own
  go_wp2
  clear o0 o1 o2 o3 o4 o5 o6 o7 o8 o9 o10 o11
  have co := ((((((((((((CO.out.put 0 (.int .i64 s.sz)).put 1 (.float .f32 s.st)).put 2 (.float .f32 s.li.1)).put 3 (.float .f32 s.li.2.1)).put 4 (.float .f32 s.li.2.2)).put 5 (.slice A1 s.sh.length c1)).put 6 (.int .i64 s.mir)).put 7 (.complex .f32 s.gr.1 s.gr.2)).put 8 (.float .f32 s.loss)).put 9 (.slice B1 s.bs.length d1)).put 10 (.int .i64 s.tk)).put 11 (.slice L1 s.log.length q1))
  have z0 := co 0 _ rfl; have z1 := co 1 _ rfl; have z2 := co 2 _ rfl; have z3 := co 3 _ rfl; have z4 := co 4 _ rfl; have z5 := co 5 _ rfl; have z6 := co 6 _ rfl; have z7 := co 7 _ rfl; have z8 := co 8 _ rfl; have z9 := co 9 _ rfl; have z10 := co 10 _ rfl; have z11 := co 11 _ rfl
  have le : w.heap.size ≤ w.heap.size + 1 := Nat.le_succ _
  exact bodyPost_ret (v := .tuple #[.agg #[.int .i64 s.sz, .float .f32 s.st, .float .f32 s.li.1, .float .f32 s.li.2.1, .float .f32 s.li.2.2, .slice A1 s.sh.length c1, .int .i64 s.mir, .complex .f32 s.gr.1 s.gr.2, .float .f32 s.loss, .slice B1 s.bs.length d1, .int .i64 s.tk, .slice L1 s.log.length q1], .bool true]) (by simp [results, Tryz.results9, go_sem, z0, z1, z2, z3, z4, z5, z6, z7, z8, z9, z10, z11]) rfl ⟨⟨A1, B1, L1, c1, d1, q1, rfl, OwnS.mono ((((((((((((OW.out.set _ lw0 _).set _ lw0 _).set _ lw0 _).set _ lw0 _).set _ lw0 _).set _ lw0 _).set _ lw0 _).set _ lw0 _).set _ lw0 _).set _ lw0 _).set _ lw0 _).set _ lw0 _) (by omega)⟩, (((((((((((hW.setCell le _).setCell le _).setCell le _).setCell le _).setCell le _).setCell le _).setCell le _).setCell le _).setCell le _).setCell le _).setCell le _).setCell le _⟩
end Go.Proofs.YthlphmojldbpkaaGreat

/- RunShow: the specification's, of good shows and events. -/
namespace Go.Proofs.YthlphmojldbpkaaGreat
open Go.RowKit
attribute [local go_sem] run_store_float run_store_complex

set_option maxRecDepth 100000 in
set_option maxHeartbeats 8000000 in
theorem specRunShow_any (s : Shw) (es : List Ev) (A B L H : Option Addr) (c d q n nc : Nat) (w : World) (hg : Good s) (hk : okS s = true) (he : es.all evG = true) (hn : n ≤ 1000) (hr : RdS w s A B L) (rE : Rd evC 13 w w.heap.size H n es) :
    Calls Tryz.prog 26 #[.agg #[.int .i64 s.sz, .float .f32 s.st, .float .f32 s.li.1, .float .f32 s.li.2.1, .float .f32 s.li.2.2, .slice A s.sh.length c, .int .i64 s.mir, .complex .f32 s.gr.1 s.gr.2, .float .f32 s.loss, .slice B s.bs.length d, .int .i64 s.tk, .slice L s.log.length q], .slice H n nc] w fun r w' => RunI s es n w.heap.size r w' ∧ Below w.heap.size w w' := by
  obtain ⟨p1, p2, p3, p4⟩ := okS_parts.1 hk
  have hl := hg.len
  have KC := Lib.hid (fun w h => specCopyS_any s A B L c d q w (by omega) p1 (by omega) h)
  have HG := Lib.hid hg
  have HK := Lib.hid hk
  have HE := Lib.hid he
  have HR := Lib.hid hr
  clear hg hk he p1 p2 p3 p4 hl hr
  go_enter Tryz.func26, Tryz.ntmps26
  go_upto_region 1 with fail
  have hW := Below.refl w.heap.size w
  have ca := CA.new w #[.int .i64 s.sz, .float .f32 s.st, .float .f32 s.li.1, .float .f32 s.li.2.1, .float .f32 s.li.2.2, .slice A s.sh.length c, .int .i64 s.mir, .complex .f32 s.gr.1 s.gr.2, .float .f32 s.loss, .slice B s.bs.length d, .int .i64 s.tk, .slice L s.log.length q] 34; have fa := FA.new w #[.int .i64 s.sz, .float .f32 s.st, .float .f32 s.li.1, .float .f32 s.li.2.1, .float .f32 s.li.2.2, .slice A s.sh.length c, .int .i64 s.mir, .complex .f32 s.gr.1 s.gr.2, .float .f32 s.loss, .slice B s.bs.length d, .int .i64 s.tk, .slice L s.log.length q] 34; replace hW := hW.alloc (hW.size) (Obj.cells #[.int .i64 s.sz, .float .f32 s.st, .float .f32 s.li.1, .float .f32 s.li.2.1, .float .f32 s.li.2.2, .slice A s.sh.length c, .int .i64 s.mir, .complex .f32 s.gr.1 s.gr.2, .float .f32 s.loss, .slice B s.bs.length d, .int .i64 s.tk, .slice L s.log.length q] 34); obtain ⟨V1, hV1e⟩ : ∃ V1, V1 = w.alloc (Obj.cells #[.int .i64 s.sz, .float .f32 s.st, .float .f32 s.li.1, .float .f32 s.li.2.1, .float .f32 s.li.2.2, .slice A s.sh.length c, .int .i64 s.mir, .complex .f32 s.gr.1 s.gr.2, .float .f32 s.loss, .slice B s.bs.length d, .int .i64 s.tk, .slice L s.log.length q] 34) := ⟨_, rfl⟩; have zV1 : V1.heap.size = w.heap.size + 1 := (by rw [hV1e]; simp); rw [← hV1e] at ca fa hW; rw [← hV1e]; clear hV1e; have la := ca.lt
  have co := CA.new V1 #[.int .i64 0, .float .f32 0, .float .f32 0, .float .f32 0, .float .f32 0, .slice none 0 0, .int .i64 0, .complex .f32 0 0, .float .f32 0, .slice none 0 0, .int .i64 0, .slice none 0 0] 34; have fo := FA.new V1 #[.int .i64 0, .float .f32 0, .float .f32 0, .float .f32 0, .float .f32 0, .slice none 0 0, .int .i64 0, .complex .f32 0 0, .float .f32 0, .slice none 0 0, .int .i64 0, .slice none 0 0] 34; replace ca := ca.alloc (Obj.cells #[.int .i64 0, .float .f32 0, .float .f32 0, .float .f32 0, .float .f32 0, .slice none 0 0, .int .i64 0, .complex .f32 0 0, .float .f32 0, .slice none 0 0, .int .i64 0, .slice none 0 0] 34); replace fa := fa.alloc la (Obj.cells #[.int .i64 0, .float .f32 0, .float .f32 0, .float .f32 0, .float .f32 0, .slice none 0 0, .int .i64 0, .complex .f32 0 0, .float .f32 0, .slice none 0 0, .int .i64 0, .slice none 0 0] 34); replace hW := hW.alloc (hW.size) (Obj.cells #[.int .i64 0, .float .f32 0, .float .f32 0, .float .f32 0, .float .f32 0, .slice none 0 0, .int .i64 0, .complex .f32 0 0, .float .f32 0, .slice none 0 0, .int .i64 0, .slice none 0 0] 34); obtain ⟨V, hVe⟩ : ∃ V, V = V1.alloc (Obj.cells #[.int .i64 0, .float .f32 0, .float .f32 0, .float .f32 0, .float .f32 0, .slice none 0 0, .int .i64 0, .complex .f32 0 0, .float .f32 0, .slice none 0 0, .int .i64 0, .slice none 0 0] 34) := ⟨_, rfl⟩; have zV : V.heap.size = V1.heap.size + 1 := (by rw [hVe]; simp); rw [← hVe] at co fo ca fa hW; rw [← hVe]; clear hVe; have lo := co.lt; replace la := ca.lt
  rw [zV1] at co fo lo zV
  clear zV1
  have a0 := ca 0 _ rfl; have a1 := ca 1 _ rfl; have a2 := ca 2 _ rfl; have a3 := ca 3 _ rfl; have a4 := ca 4 _ rfl; have a5 := ca 5 _ rfl; have a6 := ca 6 _ rfl; have a7 := ca 7 _ rfl; have a8 := ca 8 _ rfl; have a9 := ca 9 _ rfl; have a10 := ca 10 _ rfl; have a11 := ca 11 _ rfl
  go_wp2_with fail
  (with_reducible refine (KC.out _ (HR.out.step hW)).mono ?_)
  rintro r w5 ⟨⟨A5, B5, L5, c5, d5, q5, rfl, own5⟩, hb⟩
  replace co := co.keep hb
  replace fo := fo.keep hb lo
  have z5 := hb.size
  have lo5 : w.heap.size + 1 < w5.heap.size := by omega
  replace hW := then_ hW hb
  have zVe := zV
  clear hb a0 a1 a2 a3 a4 a5 a6 a7 a8 a9 a10 a11 ca fa la zV
  go_upto_region 2 with fail
  have hN : NS w w5.heap.size (shwL s A5 B5 L5 s.sh.length c5 s.bs.length d5 s.log.length q5) shw0 (w5.alloc (Obj.cells #[.int .i64 s.sz, .float .f32 s.st, .float .f32 s.li.1, .float .f32 s.li.2.1, .float .f32 s.li.2.2, .slice A5 s.sh.length c5, .int .i64 s.mir, .complex .f32 s.gr.1 s.gr.2, .float .f32 s.loss, .slice B5 s.bs.length d5, .int .i64 s.tk, .slice L5 s.log.length q5] 34)) :=
    ⟨CA.new w5 _ _, FA.new w5 _ _, co.alloc _, fo.alloc lo5 _, lo5, by simp, hW.alloc hW.size _⟩
  have off5 := own5.offNew (Nat.le_refl _)
  replace own5 := (own5.mono (show w.heap.size + 1 + 1 ≤ V.heap.size by omega)).below (show Below w5.heap.size w5 (w5.alloc (Obj.cells #[.int .i64 s.sz, .float .f32 s.st, .float .f32 s.li.1, .float .f32 s.li.2.1, .float .f32 s.li.2.2, .slice A5 s.sh.length c5, .int .i64 s.mir, .complex .f32 s.gr.1 s.gr.2, .float .f32 s.loss, .slice B5 s.bs.length d5, .int .i64 s.tk, .slice L5 s.log.length q5] 34)) by (with_reducible exact Below.alloc (Below.refl _ _) (Nat.le_refl _) _))
  obtain ⟨y, hy⟩ : ∃ y, y = w5.heap.size := ⟨_, rfl⟩
  obtain ⟨X, hX⟩ : ∃ X, X = w5.alloc (Obj.cells #[.int .i64 s.sz, .float .f32 s.st, .float .f32 s.li.1, .float .f32 s.li.2.1, .float .f32 s.li.2.2, .slice A5 s.sh.length c5, .int .i64 s.mir, .complex .f32 s.gr.1 s.gr.2, .float .f32 s.loss, .slice B5 s.bs.length d5, .int .i64 s.tk, .slice L5 s.log.length q5] 34) := ⟨_, rfl⟩
  rw [← hX, ← hy] at hN
  rw [← hX] at own5
  rw [← hy] at off5
  rw [← hX, ← hy]
  have HN := Lib.hid hN
  have OW := Lib.hid own5
  have OF := Lib.hid off5
  clear hX hy hN own5 off5 co fo lo lo5 z5 hW zVe
  go_wp2_with fail
  go_loopw [15] (fun i wr => ∃ (k : Nat) (t : Shw) (A1 B1 L1 : Option Addr) (c1 d1 q1 : Nat), k ≤ n ∧ i = .int .i64 k ∧ runK s es k = some t ∧ NS w y (shwL t A1 B1 L1 t.sh.length c1 t.bs.length d1 t.log.length q1) shw0 wr ∧ OwnS wr (w.heap.size + 1 + 1) t A1 B1 L1 c1 d1 q1 ∧ OffS t A1 B1 L1 c1 d1 q1 y) (fun i _ => n - (intOf i).toNat)
  case atStart => exact ⟨0, s, A5, B5, L5, c5, d5, q5, Nat.zero_le _, rfl, rfl, HN.out, OW.out, OF.out⟩
  case round =>
    obtain ⟨k, t, A1, B1, L1, c1, d1, q1, hk, rfl, hrun, h, own, off⟩ := hrel
    obtain ⟨gt, kt⟩ := runK_good HG.out HK.out HE.out hrun
    have ly := h.lt
    have lo1 : w.heap.size + 1 < wr.heap.size := by have := h.hy; omega
    have HRUN := Lib.hid hrun
    by_cases hlt : k < n
    · have hki : (k : Int) < (n : Int) := by omega
      have hk0 : (0 : Int) ≤ (k : Int) := by omega
      obtain ⟨bb, off', e, rfl, hbl, hx, c0, c1', c2, c3, c4, c5', c6, c7, c8, c9, c10, c11, c12⟩ := (rE.step h.bel).ev hlt
      have hev := List.all_eq_true.1 HE.out _ (List.mem_of_getElem? hx)
      have KD := Lib.hid (fun w h => specDoEvent_any t e A1 B1 L1 c1 d1 q1 w gt kt hev h)
      have HX := Lib.hid hx
      have OWN := Lib.hid own
      have OFF := Lib.hid off
      clear gt kt hev hx own off hrun
      go_upto_region 5 with fail
      have hbe : Below wr.heap.size wr (wr.alloc (Obj.cells #[.int .i64 e.k, .int .i64 e.n, .complex .f32 e.z.1 e.z.2, .complex .f32 e.s.1.1 e.s.1.2, .complex .f32 e.s.2.1.1 e.s.2.1.2, .complex .f32 e.s.2.2.1.1 e.s.2.2.1.2, .float .f32 e.s.2.2.2.1.1, .float .f32 e.s.2.2.2.1.2.1, .float .f32 e.s.2.2.2.1.2.2, .float .f32 e.s.2.2.2.2, .float .f32 e.c.1, .float .f32 e.c.2.1, .float .f32 e.c.2.2] 38)) := by (with_reducible exact Below.alloc (Below.refl _ _) (Nat.le_refl _) _)
      have cy := CA.new wr #[.int .i64 e.k, .int .i64 e.n, .complex .f32 e.z.1 e.z.2, .complex .f32 e.s.1.1 e.s.1.2, .complex .f32 e.s.2.1.1 e.s.2.1.2, .complex .f32 e.s.2.2.1.1 e.s.2.2.1.2, .float .f32 e.s.2.2.2.1.1, .float .f32 e.s.2.2.2.1.2.1, .float .f32 e.s.2.2.2.1.2.2, .float .f32 e.s.2.2.2.2, .float .f32 e.c.1, .float .f32 e.c.2.1, .float .f32 e.c.2.2] 38
      replace h := h.step hbe
      have own2 := OWN.out.below hbe
      obtain ⟨Y, hYe⟩ : ∃ Y, Y = wr.alloc (Obj.cells #[.int .i64 e.k, .int .i64 e.n, .complex .f32 e.z.1 e.z.2, .complex .f32 e.s.1.1 e.s.1.2, .complex .f32 e.s.2.1.1 e.s.2.1.2, .complex .f32 e.s.2.2.1.1 e.s.2.2.1.2, .float .f32 e.s.2.2.2.1.1, .float .f32 e.s.2.2.2.1.2.1, .float .f32 e.s.2.2.2.1.2.2, .float .f32 e.s.2.2.2.2, .float .f32 e.c.1, .float .f32 e.c.2.1, .float .f32 e.c.2.2] 38) := ⟨_, rfl⟩
      rw [← hYe] at h cy own2
      rw [← hYe]
      clear hYe hbe c0 c1' c2 c3 c4 c5' c6 c7 c8 c9 c10 c11 c12
      have a0 := h.cx 0 _ rfl; have a1 := h.cx 1 _ rfl; have a2 := h.cx 2 _ rfl; have a3 := h.cx 3 _ rfl; have a4 := h.cx 4 _ rfl; have a5 := h.cx 5 _ rfl; have a6 := h.cx 6 _ rfl; have a7 := h.cx 7 _ rfl; have a8 := h.cx 8 _ rfl; have a9 := h.cx 9 _ rfl; have a10 := h.cx 10 _ rfl; have a11 := h.cx 11 _ rfl
      have k0 := cy 0 _ rfl; have k1 := cy 1 _ rfl; have k2 := cy 2 _ rfl; have k3 := cy 3 _ rfl; have k4 := cy 4 _ rfl; have k5 := cy 5 _ rfl; have k6 := cy 6 _ rfl; have k7 := cy 7 _ rfl; have k8 := cy 8 _ rfl; have k9 := cy 9 _ rfl; have k10 := cy 10 _ rfl; have k11 := cy 11 _ rfl; have k12 := cy 12 _ rfl
      have lyY := h.lt
      have lcy := cy.lt
      have R := Lib.hid own2.rd
      have O2 := Lib.hid own2
      clear own2
      go_wp2_with fail
      (with_reducible refine (KD.out _ R.out).mono ?_)
      rintro r w7 ⟨⟨A2, B2, L2, c2, d2, q2, rfl, own7⟩, hb7⟩
      have own3 := O2.out.below hb7
      replace h := h.step hb7
      have z7 := hb7.size
      clear a0 a1 a2 a3 a4 a5 a6 a7 a8 a9 a10 a11 k0 k1 k2 k3 k4 k5 k6 k7 k8 k9 k10 k11 k12 hb7 R O2 cy lcy KD
      have HD : ∀ b u, (doE t e).isSome = b → (doE t e).getD t = u → (b = true → doE t e = some u) ∧ (b = false → doE t e = none) := by
        intro b u h1 h2
        cases hd : doE t e with
        | none => rw [hd] at h1; exact ⟨fun h => (by rw [h] at h1; cases h1), fun _ => rfl⟩
        | some v => rw [hd] at h1 h2; exact ⟨fun _ => (by rw [← h2]; rfl), fun h => (by rw [h] at h1; cases h1)⟩
      have HD := HD _ _ rfl rfl
      generalize (doE t e).isSome = b at HD
      generalize (doE t e).getD t = u at HD own7
      have z37 : w.heap.size + 1 + 1 ≤ Y.heap.size := by have := h.hy; omega
      have hba : Below w7.heap.size w7 (w7.alloc (Obj.cells #[.int .i64 u.sz, .float .f32 u.st, .float .f32 u.li.1, .float .f32 u.li.2.1, .float .f32 u.li.2.2, .slice A2 u.sh.length c2, .int .i64 u.mir, .complex .f32 u.gr.1 u.gr.2, .float .f32 u.loss, .slice B2 u.bs.length d2, .int .i64 u.tk, .slice L2 u.log.length q2] 34)) := by (with_reducible exact Below.alloc (Below.refl _ _) (Nat.le_refl _) _)
      have lY7 : y < w7.heap.size := h.lt
      cases b
      · have DN := Lib.hid (HD.2 rfl)
        have OT := Lib.hid (own3.below hba)
        clear own7 HD own3
        go_upto_region 6 with fail
        replace h := h.step hba
        obtain ⟨Z, hZe⟩ : ∃ Z, Z = w7.alloc (Obj.cells #[.int .i64 u.sz, .float .f32 u.st, .float .f32 u.li.1, .float .f32 u.li.2.1, .float .f32 u.li.2.2, .slice A2 u.sh.length c2, .int .i64 u.mir, .complex .f32 u.gr.1 u.gr.2, .float .f32 u.loss, .slice B2 u.bs.length d2, .int .i64 u.tk, .slice L2 u.log.length q2] 34) := ⟨_, rfl⟩
        rw [← hZe] at h OT
        rw [← hZe]
        clear hZe hba
        have lyZ := h.lt
        have loZ : w.heap.size + 1 < Z.heap.size := by have := h.hy; omega
        have nyo : ¬ y = w.heap.size + 1 := by have := h.hy; omega
        have a0 := h.cx 0 _ rfl; have a1 := h.cx 1 _ rfl; have a2 := h.cx 2 _ rfl; have a3 := h.cx 3 _ rfl; have a4 := h.cx 4 _ rfl; have a5 := h.cx 5 _ rfl; have a6 := h.cx 6 _ rfl; have a7 := h.cx 7 _ rfl; have a8 := h.cx 8 _ rfl; have a9 := h.cx 9 _ rfl; have a10 := h.cx 10 _ rfl; have a11 := h.cx 11 _ rfl
        have o0 := h.co 0 _ rfl; have o1 := h.co 1 _ rfl; have o2 := h.co 2 _ rfl; have o3 := h.co 3 _ rfl; have o4 := h.co 4 _ rfl; have o5 := h.co 5 _ rfl; have o6 := h.co 6 _ rfl; have o7 := h.co 7 _ rfl; have o8 := h.co 8 _ rfl; have o9 := h.co 9 _ rfl; have o10 := h.co 10 _ rfl; have o11 := h.co 11 _ rfl
        have f0 := h.fo 0; have f1 := h.fo 1; have f2 := h.fo 2; have f3 := h.fo 3; have f4 := h.fo 4; have f5 := h.fo 5; have f6 := h.fo 6; have f7 := h.fo 7; have f8 := h.fo 8; have f9 := h.fo 9; have f10 := h.fo 10; have f11 := h.fo 11
        have lo : w.heap.size + 1 < w.heap.size + 1 + 1 := by omega
        have HH := Lib.hid h
        clear h
        go_wp2
        have hz := ((((((((((((HH.out.puto 0 (.int .i64 t.sz)).puto 1 (.float .f32 t.st)).puto 2 (.float .f32 t.li.1)).puto 3 (.float .f32 t.li.2.1)).puto 4 (.float .f32 t.li.2.2)).puto 5 (.slice A1 t.sh.length c1)).puto 6 (.int .i64 t.mir)).puto 7 (.complex .f32 t.gr.1 t.gr.2)).puto 8 (.float .f32 t.loss)).puto 9 (.slice B1 t.bs.length d1)).puto 10 (.int .i64 t.tk)).puto 11 (.slice L1 t.log.length q1))
        have z0 := hz.co 0 _ rfl; have z1 := hz.co 1 _ rfl; have z2 := hz.co 2 _ rfl; have z3 := hz.co 3 _ rfl; have z4 := hz.co 4 _ rfl; have z5 := hz.co 5 _ rfl; have z6 := hz.co 6 _ rfl; have z7 := hz.co 7 _ rfl; have z8 := hz.co 8 _ rfl; have z9 := hz.co 9 _ rfl; have z10 := hz.co 10 _ rfl; have z11 := hz.co 11 _ rfl
        refine bodyPost_ret (v := .tuple #[.agg #[.int .i64 t.sz, .float .f32 t.st, .float .f32 t.li.1, .float .f32 t.li.2.1, .float .f32 t.li.2.2, .slice A1 t.sh.length c1, .int .i64 t.mir, .complex .f32 t.gr.1 t.gr.2, .float .f32 t.loss, .slice B1 t.bs.length d1, .int .i64 t.tk, .slice L1 t.log.length q1], .int .i64 (k : Int)]) (by simp [results, Tryz.results26, go_sem, z0, z1, z2, z3, z4, z5, z6, z7, z8, z9, z10, z11]) rfl ⟨⟨k, t, A1, B1, L1, c1, d1, q1, HRUN.out, hk, .inr ⟨e, HX.out, DN.out⟩, rfl, OwnS.mono ((((((((((((OT.out.set _ lo _).set _ lo _).set _ lo _).set _ lo _).set _ lo _).set _ lo _).set _ lo _).set _ lo _).set _ lo _).set _ lo _).set _ lo _).set _ lo _) (by omega)⟩, hz.bel⟩
      · have DY := Lib.hid (HD.1 rfl)
        have OU := Lib.hid (own7.below hba)
        have FU := Lib.hid (own7.offLt lyY)
        clear own7 HD own3
        go_upto_region 8 with fail
        have cb := CA.new w7 #[.int .i64 u.sz, .float .f32 u.st, .float .f32 u.li.1, .float .f32 u.li.2.1, .float .f32 u.li.2.2, .slice A2 u.sh.length c2, .int .i64 u.mir, .complex .f32 u.gr.1 u.gr.2, .float .f32 u.loss, .slice B2 u.bs.length d2, .int .i64 u.tk, .slice L2 u.log.length q2] 34
        have nyb : ¬ w7.heap.size = y := by omega
        replace h := h.step hba
        obtain ⟨Z, hZe⟩ : ∃ Z, Z = w7.alloc (Obj.cells #[.int .i64 u.sz, .float .f32 u.st, .float .f32 u.li.1, .float .f32 u.li.2.1, .float .f32 u.li.2.2, .slice A2 u.sh.length c2, .int .i64 u.mir, .complex .f32 u.gr.1 u.gr.2, .float .f32 u.loss, .slice B2 u.bs.length d2, .int .i64 u.tk, .slice L2 u.log.length q2] 34) := ⟨_, rfl⟩
        rw [← hZe] at h OU cb
        rw [← hZe]
        clear hZe hba
        have lyZ := h.lt
        have lbZ := cb.lt
        have a0 := h.cx 0 _ rfl; have a1 := h.cx 1 _ rfl; have a2 := h.cx 2 _ rfl; have a3 := h.cx 3 _ rfl; have a4 := h.cx 4 _ rfl; have a5 := h.cx 5 _ rfl; have a6 := h.cx 6 _ rfl; have a7 := h.cx 7 _ rfl; have a8 := h.cx 8 _ rfl; have a9 := h.cx 9 _ rfl; have a10 := h.cx 10 _ rfl; have a11 := h.cx 11 _ rfl
        have b0 := cb 0 _ rfl; have b1 := cb 1 _ rfl; have b2 := cb 2 _ rfl; have b3 := cb 3 _ rfl; have b4 := cb 4 _ rfl; have b5 := cb 5 _ rfl; have b6 := cb 6 _ rfl; have b7 := cb 7 _ rfl; have b8 := cb 8 _ rfl; have b9 := cb 9 _ rfl; have b10 := cb 10 _ rfl; have b11 := cb 11 _ rfl
        have f0 := h.fx 0; have f1 := h.fx 1; have f2 := h.fx 2; have f3 := h.fx 3; have f4 := h.fx 4; have f5 := h.fx 5; have f6 := h.fx 6; have f7 := h.fx 7; have f8 := h.fx 8; have f9 := h.fx 9; have f10 := h.fx 10; have f11 := h.fx 11
        have HH := Lib.hid h
        clear h
        go_wp2_with fail
        go_roundw
        case rel =>
          exact ⟨k + 1, u, A2, B2, L2, c2, d2, q2, by omega, by go_num, by rw [runK_succ HRUN.out HX.out]; exact DY.out, ((((((((((((HH.out.put 0 (.int .i64 u.sz)).put 1 (.float .f32 u.st)).put 2 (.float .f32 u.li.1)).put 3 (.float .f32 u.li.2.1)).put 4 (.float .f32 u.li.2.2)).put 5 (.slice A2 u.sh.length c2)).put 6 (.int .i64 u.mir)).put 7 (.complex .f32 u.gr.1 u.gr.2)).put 8 (.float .f32 u.loss)).put 9 (.slice B2 u.bs.length d2)).put 10 (.int .i64 u.tk)).put 11 (.slice L2 u.log.length q2)), OwnS.mono ((((((((((((OU.out.set _ lyY _).set _ lyY _).set _ lyY _).set _ lyY _).set _ lyY _).set _ lyY _).set _ lyY _).set _ lyY _).set _ lyY _).set _ lyY _).set _ lyY _).set _ lyY _) z37, FU.out⟩
        case measure => simp [intOf]; omega
    · obtain rfl : k = n := by omega
      have loZ : w.heap.size + 1 < wr.heap.size := lo1
      have nyo : ¬ y = w.heap.size + 1 := by have := h.hy; omega
      have a0 := h.cx 0 _ rfl; have a1 := h.cx 1 _ rfl; have a2 := h.cx 2 _ rfl; have a3 := h.cx 3 _ rfl; have a4 := h.cx 4 _ rfl; have a5 := h.cx 5 _ rfl; have a6 := h.cx 6 _ rfl; have a7 := h.cx 7 _ rfl; have a8 := h.cx 8 _ rfl; have a9 := h.cx 9 _ rfl; have a10 := h.cx 10 _ rfl; have a11 := h.cx 11 _ rfl
      have o0 := h.co 0 _ rfl; have o1 := h.co 1 _ rfl; have o2 := h.co 2 _ rfl; have o3 := h.co 3 _ rfl; have o4 := h.co 4 _ rfl; have o5 := h.co 5 _ rfl; have o6 := h.co 6 _ rfl; have o7 := h.co 7 _ rfl; have o8 := h.co 8 _ rfl; have o9 := h.co 9 _ rfl; have o10 := h.co 10 _ rfl; have o11 := h.co 11 _ rfl
      have f0 := h.fo 0; have f1 := h.fo 1; have f2 := h.fo 2; have f3 := h.fo 3; have f4 := h.fo 4; have f5 := h.fo 5; have f6 := h.fo 6; have f7 := h.fo 7; have f8 := h.fo 8; have f9 := h.fo 9; have f10 := h.fo 10; have f11 := h.fo 11
      have lo : w.heap.size + 1 < w.heap.size + 1 + 1 := by omega
      have HH := Lib.hid h
      have OT := Lib.hid own
      clear h own off hrun gt kt
      go_wp2
      have hz := ((((((((((((HH.out.puto 0 (.int .i64 t.sz)).puto 1 (.float .f32 t.st)).puto 2 (.float .f32 t.li.1)).puto 3 (.float .f32 t.li.2.1)).puto 4 (.float .f32 t.li.2.2)).puto 5 (.slice A1 t.sh.length c1)).puto 6 (.int .i64 t.mir)).puto 7 (.complex .f32 t.gr.1 t.gr.2)).puto 8 (.float .f32 t.loss)).puto 9 (.slice B1 t.bs.length d1)).puto 10 (.int .i64 t.tk)).puto 11 (.slice L1 t.log.length q1))
      have z0 := hz.co 0 _ rfl; have z1 := hz.co 1 _ rfl; have z2 := hz.co 2 _ rfl; have z3 := hz.co 3 _ rfl; have z4 := hz.co 4 _ rfl; have z5 := hz.co 5 _ rfl; have z6 := hz.co 6 _ rfl; have z7 := hz.co 7 _ rfl; have z8 := hz.co 8 _ rfl; have z9 := hz.co 9 _ rfl; have z10 := hz.co 10 _ rfl; have z11 := hz.co 11 _ rfl
      refine bodyPost_ret (v := .tuple #[.agg #[.int .i64 t.sz, .float .f32 t.st, .float .f32 t.li.1, .float .f32 t.li.2.1, .float .f32 t.li.2.2, .slice A1 t.sh.length c1, .int .i64 t.mir, .complex .f32 t.gr.1 t.gr.2, .float .f32 t.loss, .slice B1 t.bs.length d1, .int .i64 t.tk, .slice L1 t.log.length q1], .int .i64 (k : Int)]) (by simp [results, Tryz.results26, go_sem, z0, z1, z2, z3, z4, z5, z6, z7, z8, z9, z10, z11]) rfl ⟨⟨k, t, A1, B1, L1, c1, d1, q1, HRUN.out, Nat.le_refl _, .inl rfl, rfl, OwnS.mono ((((((((((((OT.out.set _ lo _).set _ lo _).set _ lo _).set _ lo _).set _ lo _).set _ lo _).set _ lo _).set _ lo _).set _ lo _).set _ lo _).set _ lo _).set _ lo _) (by omega)⟩, hz.bel⟩
end Go.Proofs.YthlphmojldbpkaaGreat
