
/- FnShowKeeps: an event keeps a show valid; refused it changes nothing, and done it is put into the log. -/
import Derived.Test.YtoafldgngbaddaaDrawShow
import Derived.Test.YtoafldgngbaddaaM32
import Derived.Test.YtoafldgngbaddaaDoI
import Derived.Test.YtoafldgngbaddaaM21
import Derived.Test.YtoafldgngbaddaaM30
import Derived.ProofKit
import Derived.ChangeOld
import Derived.Deep.RegionHeld3
import Derived.Deep.RegionLaw
import Derived.Below
import Derived.Laws.Cover3
namespace Go.Proofs.Ytoafldgngbaddaa
open Go.ChangeShapes Go.WideShapes Go.ChangeAt Go.RowKit
attribute [local go_sem] run_store_float run_store_complex

theorem doE_tick {s t : Shw} {e : Ev} (hg : Good s) (hk : okS s = true) (h : doE s e = some t) : t.tk = s.tk + (if e.k = 7 then e.n else 0) := by
  obtain ⟨hr, u, hu, rfl, _⟩ := doE_some h
  cases e with
  | wait n =>
    simp only [evR] at hr
    obtain ⟨n1, n2⟩ := inB_true hr
    obtain ⟨_, _, _, _, _, _, _, _, _, _, e9, _⟩ := waitS_inv hg (ok_tum hg hk) hu
    show u.tk = s.tk + n
    rw [e9]; omega
  | take n =>
    simp only [hap] at hu
    split at hu
    · injection hu with hu
      subst hu
      show s.tk = s.tk + 0
      omega
    · cases hu
  | push n z =>
    simp only [hap] at hu
    split at hu
    · injection hu with hu
      subst hu
      show s.tk = s.tk + 0
      omega
    · cases hu
  | add x z => injection hu with hu; subst hu; show s.tk = s.tk + 0; omega
  | light c => injection hu with hu; subst hu; show s.tk = s.tk + 0; omega
  | mirrors n => injection hu with hu; subst hu; show s.tk = s.tk + 0; omega
  | gravity z => injection hu with hu; subst hu; show s.tk = s.tk + 0; omega

set_option maxRecDepth 100000 in
set_option maxHeartbeats 16000000 in
theorem lawKeeps (A : Option Addr) (m c : Nat) (bs : List Int) (w : World) (hr : Rd byteC 1 w w.heap.size A m bs) (hb : ∀ x ∈ bs, 0 ≤ x ∧ x ≤ 255) :
    Calls Try.prog 4 #[.slice A m c] w fun e w' => e = .returned (.bool true) ∧ Below w.heap.size w w' := by
  by_cases hbig : (4096 : Int) < m
  · have hd : decide ((4096 : Int) < m) = true := by simp [hbig]
    go_enter Try.func4, Try.ntmps4
    go_wp2_with (go_at_call 12; refine (bigT_any _ _ _ _).mono ?_; rintro e w' ⟨rfl, rfl⟩; simp only [hd])
    go_ret
    exact ⟨rfl, by (repeat (first | with_reducible assumption | exact Below.refl _ _ | (refine Below.setCell ?_ (by first | exact Nat.le_refl _ | (simp; done) | omega | (simp; omega)) _) | (refine below_drewN ?_ _) | (refine Below.drew ?_) | (refine Below.alloc ?_ (by first | exact Nat.le_refl _ | (simp; done) | omega | (simp; omega)) _) | (refine then_ ?_ (by with_reducible assumption)) | assumption | (refine then_ ?_ (by assumption))))⟩
  · have hd : decide ((4096 : Int) < m) = false := by simp [hbig]
    have hm : m ≤ 4096 := by omega
    go_enter Try.func4, Try.ntmps4
    go_wp2_with (go_at_call 12; refine (bigT_any _ _ _ _).mono ?_; rintro e w' ⟨rfl, rfl⟩; simp only [hd])
    refine (drawShow_any A m c bs _ hm hr hb).mono ?_
    rintro r w1 ⟨s, e, S, B, L, k, d, q, HD, he, rfl, own, hW⟩
    have hg := HD.good
    have hk := HD.ok
    obtain ⟨p1, p2, p3, p4⟩ := okS_parts.1 hk
    obtain ⟨tk0, tk1⟩ := inB_true p3
    have hl := hg.len
    have l1 : s.sh.length ≤ 8 := by omega
    have KI := Lib.hid (fun w (h : RdS w s S B L) => isShow_any s S B L s.sh.length k s.bs.length d s.log.length q w hg (by omega) (by omega) (by omega) h.1 h.2.1 h.2.2)
    rw [hk] at KI
    have KD := Lib.hid (fun w h => doEvent_any s e S B L k d q w hg hk he h)
    have KM := Lib.hid (fun S2 B2 L2 k2 d2 q2 w h1 h2 => sameShow_self s S B L S2 B2 L2 k d q k2 d2 q2 w hg hk h1 h2)
    have HG := Lib.hid hg
    have HK := Lib.hid hk
    have HE := Lib.hid he
    clear hr hb hd hbig HD hg hk he p1 p2 p3 hl
    go_upto_region 4 with fail
    have ca := CA.new w1 #[.int .i64 s.sz, .float .f32 s.st, .float .f32 s.li.1, .float .f32 s.li.2.1, .float .f32 s.li.2.2, .slice S s.sh.length k, .int .i64 s.mir, .complex .f32 s.gr.1 s.gr.2, .float .f32 s.loss, .slice B s.bs.length d, .int .i64 s.tk, .slice L s.log.length q] 33; have fa := FA.new w1 #[.int .i64 s.sz, .float .f32 s.st, .float .f32 s.li.1, .float .f32 s.li.2.1, .float .f32 s.li.2.2, .slice S s.sh.length k, .int .i64 s.mir, .complex .f32 s.gr.1 s.gr.2, .float .f32 s.loss, .slice B s.bs.length d, .int .i64 s.tk, .slice L s.log.length q] 33; replace hW := hW.alloc (hW.size) (Obj.cells #[.int .i64 s.sz, .float .f32 s.st, .float .f32 s.li.1, .float .f32 s.li.2.1, .float .f32 s.li.2.2, .slice S s.sh.length k, .int .i64 s.mir, .complex .f32 s.gr.1 s.gr.2, .float .f32 s.loss, .slice B s.bs.length d, .int .i64 s.tk, .slice L s.log.length q] 33); replace own := own.alloc (own.size) (Obj.cells #[.int .i64 s.sz, .float .f32 s.st, .float .f32 s.li.1, .float .f32 s.li.2.1, .float .f32 s.li.2.2, .slice S s.sh.length k, .int .i64 s.mir, .complex .f32 s.gr.1 s.gr.2, .float .f32 s.loss, .slice B s.bs.length d, .int .i64 s.tk, .slice L s.log.length q] 33); obtain ⟨V1, hV1e⟩ : ∃ V1, V1 = w1.alloc (Obj.cells #[.int .i64 s.sz, .float .f32 s.st, .float .f32 s.li.1, .float .f32 s.li.2.1, .float .f32 s.li.2.2, .slice S s.sh.length k, .int .i64 s.mir, .complex .f32 s.gr.1 s.gr.2, .float .f32 s.loss, .slice B s.bs.length d, .int .i64 s.tk, .slice L s.log.length q] 33) := ⟨_, rfl⟩; have zV1 : V1.heap.size = w1.heap.size + 1 := (by rw [hV1e]; simp); rw [← hV1e] at ca fa hW own; rw [← hV1e]; clear hV1e; have la := ca.lt
    have cb := CA.new V1 #[.int .i64 e.k, .int .i64 e.n, .complex .f32 e.z.1 e.z.2, .complex .f32 e.s.1.1 e.s.1.2, .complex .f32 e.s.2.1.1 e.s.2.1.2, .complex .f32 e.s.2.2.1.1 e.s.2.2.1.2, .float .f32 e.s.2.2.2.1.1, .float .f32 e.s.2.2.2.1.2.1, .float .f32 e.s.2.2.2.1.2.2, .float .f32 e.s.2.2.2.2, .float .f32 e.c.1, .float .f32 e.c.2.1, .float .f32 e.c.2.2] 45; have fb := FA.new V1 #[.int .i64 e.k, .int .i64 e.n, .complex .f32 e.z.1 e.z.2, .complex .f32 e.s.1.1 e.s.1.2, .complex .f32 e.s.2.1.1 e.s.2.1.2, .complex .f32 e.s.2.2.1.1 e.s.2.2.1.2, .float .f32 e.s.2.2.2.1.1, .float .f32 e.s.2.2.2.1.2.1, .float .f32 e.s.2.2.2.1.2.2, .float .f32 e.s.2.2.2.2, .float .f32 e.c.1, .float .f32 e.c.2.1, .float .f32 e.c.2.2] 45; replace ca := ca.alloc (Obj.cells #[.int .i64 e.k, .int .i64 e.n, .complex .f32 e.z.1 e.z.2, .complex .f32 e.s.1.1 e.s.1.2, .complex .f32 e.s.2.1.1 e.s.2.1.2, .complex .f32 e.s.2.2.1.1 e.s.2.2.1.2, .float .f32 e.s.2.2.2.1.1, .float .f32 e.s.2.2.2.1.2.1, .float .f32 e.s.2.2.2.1.2.2, .float .f32 e.s.2.2.2.2, .float .f32 e.c.1, .float .f32 e.c.2.1, .float .f32 e.c.2.2] 45); replace fa := fa.alloc la (Obj.cells #[.int .i64 e.k, .int .i64 e.n, .complex .f32 e.z.1 e.z.2, .complex .f32 e.s.1.1 e.s.1.2, .complex .f32 e.s.2.1.1 e.s.2.1.2, .complex .f32 e.s.2.2.1.1 e.s.2.2.1.2, .float .f32 e.s.2.2.2.1.1, .float .f32 e.s.2.2.2.1.2.1, .float .f32 e.s.2.2.2.1.2.2, .float .f32 e.s.2.2.2.2, .float .f32 e.c.1, .float .f32 e.c.2.1, .float .f32 e.c.2.2] 45); replace hW := hW.alloc (hW.size) (Obj.cells #[.int .i64 e.k, .int .i64 e.n, .complex .f32 e.z.1 e.z.2, .complex .f32 e.s.1.1 e.s.1.2, .complex .f32 e.s.2.1.1 e.s.2.1.2, .complex .f32 e.s.2.2.1.1 e.s.2.2.1.2, .float .f32 e.s.2.2.2.1.1, .float .f32 e.s.2.2.2.1.2.1, .float .f32 e.s.2.2.2.1.2.2, .float .f32 e.s.2.2.2.2, .float .f32 e.c.1, .float .f32 e.c.2.1, .float .f32 e.c.2.2] 45); replace own := own.alloc (own.size) (Obj.cells #[.int .i64 e.k, .int .i64 e.n, .complex .f32 e.z.1 e.z.2, .complex .f32 e.s.1.1 e.s.1.2, .complex .f32 e.s.2.1.1 e.s.2.1.2, .complex .f32 e.s.2.2.1.1 e.s.2.2.1.2, .float .f32 e.s.2.2.2.1.1, .float .f32 e.s.2.2.2.1.2.1, .float .f32 e.s.2.2.2.1.2.2, .float .f32 e.s.2.2.2.2, .float .f32 e.c.1, .float .f32 e.c.2.1, .float .f32 e.c.2.2] 45); obtain ⟨V, hVe⟩ : ∃ V, V = V1.alloc (Obj.cells #[.int .i64 e.k, .int .i64 e.n, .complex .f32 e.z.1 e.z.2, .complex .f32 e.s.1.1 e.s.1.2, .complex .f32 e.s.2.1.1 e.s.2.1.2, .complex .f32 e.s.2.2.1.1 e.s.2.2.1.2, .float .f32 e.s.2.2.2.1.1, .float .f32 e.s.2.2.2.1.2.1, .float .f32 e.s.2.2.2.1.2.2, .float .f32 e.s.2.2.2.2, .float .f32 e.c.1, .float .f32 e.c.2.1, .float .f32 e.c.2.2] 45) := ⟨_, rfl⟩; have zV : V.heap.size = V1.heap.size + 1 := (by rw [hVe]; simp); rw [← hVe] at cb fb ca fa hW own; rw [← hVe]; clear hVe; have lb := cb.lt; replace la := ca.lt
    rw [zV1] at cb fb lb zV
    clear zV1
    have a0 := ca 0 _ rfl; have a1 := ca 1 _ rfl; have a2 := ca 2 _ rfl; have a3 := ca 3 _ rfl; have a4 := ca 4 _ rfl; have a5 := ca 5 _ rfl; have a6 := ca 6 _ rfl; have a7 := ca 7 _ rfl; have a8 := ca 8 _ rfl; have a9 := ca 9 _ rfl; have a10 := ca 10 _ rfl; have a11 := ca 11 _ rfl
    have b0 := cb 0 _ rfl; have b1 := cb 1 _ rfl; have b2 := cb 2 _ rfl; have b3 := cb 3 _ rfl; have b4 := cb 4 _ rfl; have b5 := cb 5 _ rfl; have b6 := cb 6 _ rfl; have b7 := cb 7 _ rfl; have b8 := cb 8 _ rfl; have b9 := cb 9 _ rfl; have b10 := cb 10 _ rfl; have b11 := cb 11 _ rfl; have b12 := cb 12 _ rfl
    have R := Lib.hid own.rd
    go_wp2_with fail
    (with_reducible refine (KD.out _ R.out).mono ?_)
    rintro r w2 ⟨⟨S2, B2, L2, k2, d2, q2, rfl, own2⟩, hb2⟩
    clear a0 a1 a2 a3 a4 a5 a6 a7 a8 a9 a10 a11 b0 b1 b2 b3 b4 b5 b6 b7 b8 b9 b10 b11 b12 R
    replace own := own.below hb2
    replace ca := ca.keep hb2; replace fa := fa.keep hb2 la; replace la := ca.lt; replace cb := cb.keep hb2; replace fb := fb.keep hb2 lb; replace lb := cb.lt; replace hW := then_ hW hb2
    clear hb2
    cases hdo : doE s e with
    | none =>
      rw [hdo] at own2
      simp only [Option.getD_none, Option.isSome_none] at own2 ⊢
      go_upto_region 5 with fail
      have cc := CA.new w2 #[.int .i64 s.sz, .float .f32 s.st, .float .f32 s.li.1, .float .f32 s.li.2.1, .float .f32 s.li.2.2, .slice S2 s.sh.length k2, .int .i64 s.mir, .complex .f32 s.gr.1 s.gr.2, .float .f32 s.loss, .slice B2 s.bs.length d2, .int .i64 s.tk, .slice L2 s.log.length q2] 33; have fc := FA.new w2 #[.int .i64 s.sz, .float .f32 s.st, .float .f32 s.li.1, .float .f32 s.li.2.1, .float .f32 s.li.2.2, .slice S2 s.sh.length k2, .int .i64 s.mir, .complex .f32 s.gr.1 s.gr.2, .float .f32 s.loss, .slice B2 s.bs.length d2, .int .i64 s.tk, .slice L2 s.log.length q2] 33; replace ca := ca.alloc (Obj.cells #[.int .i64 s.sz, .float .f32 s.st, .float .f32 s.li.1, .float .f32 s.li.2.1, .float .f32 s.li.2.2, .slice S2 s.sh.length k2, .int .i64 s.mir, .complex .f32 s.gr.1 s.gr.2, .float .f32 s.loss, .slice B2 s.bs.length d2, .int .i64 s.tk, .slice L2 s.log.length q2] 33); replace fa := fa.alloc la (Obj.cells #[.int .i64 s.sz, .float .f32 s.st, .float .f32 s.li.1, .float .f32 s.li.2.1, .float .f32 s.li.2.2, .slice S2 s.sh.length k2, .int .i64 s.mir, .complex .f32 s.gr.1 s.gr.2, .float .f32 s.loss, .slice B2 s.bs.length d2, .int .i64 s.tk, .slice L2 s.log.length q2] 33); replace cb := cb.alloc (Obj.cells #[.int .i64 s.sz, .float .f32 s.st, .float .f32 s.li.1, .float .f32 s.li.2.1, .float .f32 s.li.2.2, .slice S2 s.sh.length k2, .int .i64 s.mir, .complex .f32 s.gr.1 s.gr.2, .float .f32 s.loss, .slice B2 s.bs.length d2, .int .i64 s.tk, .slice L2 s.log.length q2] 33); replace fb := fb.alloc lb (Obj.cells #[.int .i64 s.sz, .float .f32 s.st, .float .f32 s.li.1, .float .f32 s.li.2.1, .float .f32 s.li.2.2, .slice S2 s.sh.length k2, .int .i64 s.mir, .complex .f32 s.gr.1 s.gr.2, .float .f32 s.loss, .slice B2 s.bs.length d2, .int .i64 s.tk, .slice L2 s.log.length q2] 33); replace hW := hW.alloc (hW.size) (Obj.cells #[.int .i64 s.sz, .float .f32 s.st, .float .f32 s.li.1, .float .f32 s.li.2.1, .float .f32 s.li.2.2, .slice S2 s.sh.length k2, .int .i64 s.mir, .complex .f32 s.gr.1 s.gr.2, .float .f32 s.loss, .slice B2 s.bs.length d2, .int .i64 s.tk, .slice L2 s.log.length q2] 33); replace own := own.alloc (own.size) (Obj.cells #[.int .i64 s.sz, .float .f32 s.st, .float .f32 s.li.1, .float .f32 s.li.2.1, .float .f32 s.li.2.2, .slice S2 s.sh.length k2, .int .i64 s.mir, .complex .f32 s.gr.1 s.gr.2, .float .f32 s.loss, .slice B2 s.bs.length d2, .int .i64 s.tk, .slice L2 s.log.length q2] 33); replace own2 := own2.alloc (own2.size) (Obj.cells #[.int .i64 s.sz, .float .f32 s.st, .float .f32 s.li.1, .float .f32 s.li.2.1, .float .f32 s.li.2.2, .slice S2 s.sh.length k2, .int .i64 s.mir, .complex .f32 s.gr.1 s.gr.2, .float .f32 s.loss, .slice B2 s.bs.length d2, .int .i64 s.tk, .slice L2 s.log.length q2] 33); obtain ⟨V3, hV3e⟩ : ∃ V3, V3 = w2.alloc (Obj.cells #[.int .i64 s.sz, .float .f32 s.st, .float .f32 s.li.1, .float .f32 s.li.2.1, .float .f32 s.li.2.2, .slice S2 s.sh.length k2, .int .i64 s.mir, .complex .f32 s.gr.1 s.gr.2, .float .f32 s.loss, .slice B2 s.bs.length d2, .int .i64 s.tk, .slice L2 s.log.length q2] 33) := ⟨_, rfl⟩; have zV3 : V3.heap.size = w2.heap.size + 1 := (by rw [hV3e]; simp); rw [← hV3e] at cc fc ca fa cb fb hW own own2; rw [← hV3e]; clear hV3e; have lc := cc.lt; replace la := ca.lt; replace lb := cb.lt
      have a0 := ca 0 _ rfl; have a1 := ca 1 _ rfl; have a2 := ca 2 _ rfl; have a3 := ca 3 _ rfl; have a4 := ca 4 _ rfl; have a5 := ca 5 _ rfl; have a6 := ca 6 _ rfl; have a7 := ca 7 _ rfl; have a8 := ca 8 _ rfl; have a9 := ca 9 _ rfl; have a10 := ca 10 _ rfl; have a11 := ca 11 _ rfl
      have R := Lib.hid own.rd
      go_wp2_with fail
      (with_reducible refine (KI.out _ R.out).mono ?_)
      rintro r w4 ⟨rfl, hb2⟩
      clear a0 a1 a2 a3 a4 a5 a6 a7 a8 a9 a10 a11 R
      replace own := own.below hb2
      replace own2 := own2.below hb2
      replace ca := ca.keep hb2; replace fa := fa.keep hb2 la; replace la := ca.lt; replace cb := cb.keep hb2; replace fb := fb.keep hb2 lb; replace lb := cb.lt; replace cc := cc.keep hb2; replace fc := fc.keep hb2 lc; replace lc := cc.lt; replace hW := then_ hW hb2
      have KI2 := Lib.hid (fun w (h : RdS w s S2 B2 L2) => isShow_any s S2 B2 L2 s.sh.length k2 s.bs.length d2 s.log.length q2 w HG.out (by omega) (by have := HG.out.len; omega) (by omega) h.1 h.2.1 h.2.2)
      rw [HK.out] at KI2
      clear hb2
      have c0 := cc 0 _ rfl; have c1 := cc 1 _ rfl; have c2 := cc 2 _ rfl; have c3 := cc 3 _ rfl; have c4 := cc 4 _ rfl; have c5 := cc 5 _ rfl; have c6 := cc 6 _ rfl; have c7 := cc 7 _ rfl; have c8 := cc 8 _ rfl; have c9 := cc 9 _ rfl; have c10 := cc 10 _ rfl; have c11 := cc 11 _ rfl
      have R := Lib.hid own2.rd
      go_wp2_with fail
      (with_reducible refine (KI2.out _ R.out).mono ?_)
      rintro r w5 ⟨rfl, hb2⟩
      clear c0 c1 c2 c3 c4 c5 c6 c7 c8 c9 c10 c11 R
      replace own := own.below hb2
      replace own2 := own2.below hb2
      replace ca := ca.keep hb2; replace fa := fa.keep hb2 la; replace la := ca.lt; replace cb := cb.keep hb2; replace fb := fb.keep hb2 lb; replace lb := cb.lt; replace cc := cc.keep hb2; replace fc := fc.keep hb2 lc; replace lc := cc.lt; replace hW := then_ hW hb2
      clear hb2
      have a0 := ca 0 _ rfl; have a1 := ca 1 _ rfl; have a2 := ca 2 _ rfl; have a3 := ca 3 _ rfl; have a4 := ca 4 _ rfl; have a5 := ca 5 _ rfl; have a6 := ca 6 _ rfl; have a7 := ca 7 _ rfl; have a8 := ca 8 _ rfl; have a9 := ca 9 _ rfl; have a10 := ca 10 _ rfl; have a11 := ca 11 _ rfl
      have c0 := cc 0 _ rfl; have c1 := cc 1 _ rfl; have c2 := cc 2 _ rfl; have c3 := cc 3 _ rfl; have c4 := cc 4 _ rfl; have c5 := cc 5 _ rfl; have c6 := cc 6 _ rfl; have c7 := cc 7 _ rfl; have c8 := cc 8 _ rfl; have c9 := cc 9 _ rfl; have c10 := cc 10 _ rfl; have c11 := cc 11 _ rfl
      have R := Lib.hid own.rd
      have R2 := Lib.hid own2.rd
      go_wp2_with fail
      (with_reducible refine (KM.out _ _ _ _ _ _ _ R.out R2.out).mono ?_)
      rintro r w6 ⟨rfl, hb2⟩
      go_wp2
      go_ret
      exact ⟨rfl, then_ hW hb2⟩
    | some t =>
      rw [hdo] at own2
      simp only [Option.getD_some, Option.isSome_some] at own2 ⊢
      obtain ⟨hgt, hkt⟩ := doE_good HG.out HK.out HE.out hdo
      obtain ⟨q1, q2', q3, q4⟩ := okS_parts.1 hkt
      have f2 := hgt.len
      have f1 : t.log = s.log ++ [e] := (doE_keeps hdo).2.2
      have f3 := doE_tick HG.out HK.out hdo
      have KI2 := Lib.hid (fun w (h : RdS w t S2 B2 L2) => isShow_any t S2 B2 L2 t.sh.length k2 t.bs.length d2 t.log.length q2 w hgt (by omega) (by omega) (by omega) h.1 h.2.1 h.2.2)
      rw [hkt] at KI2
      have HR := Lib.hid (doE_some hdo).1
      have F1 := Lib.hid f1
      have F2 := Lib.hid f2
      have F3 := Lib.hid f3
      clear hgt hkt q1 q2' q3 q4 f1 f2 f3 hdo
      go_upto_region 5 with fail
      have cc := CA.new w2 #[.int .i64 t.sz, .float .f32 t.st, .float .f32 t.li.1, .float .f32 t.li.2.1, .float .f32 t.li.2.2, .slice S2 t.sh.length k2, .int .i64 t.mir, .complex .f32 t.gr.1 t.gr.2, .float .f32 t.loss, .slice B2 t.bs.length d2, .int .i64 t.tk, .slice L2 t.log.length q2] 33; have fc := FA.new w2 #[.int .i64 t.sz, .float .f32 t.st, .float .f32 t.li.1, .float .f32 t.li.2.1, .float .f32 t.li.2.2, .slice S2 t.sh.length k2, .int .i64 t.mir, .complex .f32 t.gr.1 t.gr.2, .float .f32 t.loss, .slice B2 t.bs.length d2, .int .i64 t.tk, .slice L2 t.log.length q2] 33; replace ca := ca.alloc (Obj.cells #[.int .i64 t.sz, .float .f32 t.st, .float .f32 t.li.1, .float .f32 t.li.2.1, .float .f32 t.li.2.2, .slice S2 t.sh.length k2, .int .i64 t.mir, .complex .f32 t.gr.1 t.gr.2, .float .f32 t.loss, .slice B2 t.bs.length d2, .int .i64 t.tk, .slice L2 t.log.length q2] 33); replace fa := fa.alloc la (Obj.cells #[.int .i64 t.sz, .float .f32 t.st, .float .f32 t.li.1, .float .f32 t.li.2.1, .float .f32 t.li.2.2, .slice S2 t.sh.length k2, .int .i64 t.mir, .complex .f32 t.gr.1 t.gr.2, .float .f32 t.loss, .slice B2 t.bs.length d2, .int .i64 t.tk, .slice L2 t.log.length q2] 33); replace cb := cb.alloc (Obj.cells #[.int .i64 t.sz, .float .f32 t.st, .float .f32 t.li.1, .float .f32 t.li.2.1, .float .f32 t.li.2.2, .slice S2 t.sh.length k2, .int .i64 t.mir, .complex .f32 t.gr.1 t.gr.2, .float .f32 t.loss, .slice B2 t.bs.length d2, .int .i64 t.tk, .slice L2 t.log.length q2] 33); replace fb := fb.alloc lb (Obj.cells #[.int .i64 t.sz, .float .f32 t.st, .float .f32 t.li.1, .float .f32 t.li.2.1, .float .f32 t.li.2.2, .slice S2 t.sh.length k2, .int .i64 t.mir, .complex .f32 t.gr.1 t.gr.2, .float .f32 t.loss, .slice B2 t.bs.length d2, .int .i64 t.tk, .slice L2 t.log.length q2] 33); replace hW := hW.alloc (hW.size) (Obj.cells #[.int .i64 t.sz, .float .f32 t.st, .float .f32 t.li.1, .float .f32 t.li.2.1, .float .f32 t.li.2.2, .slice S2 t.sh.length k2, .int .i64 t.mir, .complex .f32 t.gr.1 t.gr.2, .float .f32 t.loss, .slice B2 t.bs.length d2, .int .i64 t.tk, .slice L2 t.log.length q2] 33); replace own := own.alloc (own.size) (Obj.cells #[.int .i64 t.sz, .float .f32 t.st, .float .f32 t.li.1, .float .f32 t.li.2.1, .float .f32 t.li.2.2, .slice S2 t.sh.length k2, .int .i64 t.mir, .complex .f32 t.gr.1 t.gr.2, .float .f32 t.loss, .slice B2 t.bs.length d2, .int .i64 t.tk, .slice L2 t.log.length q2] 33); replace own2 := own2.alloc (own2.size) (Obj.cells #[.int .i64 t.sz, .float .f32 t.st, .float .f32 t.li.1, .float .f32 t.li.2.1, .float .f32 t.li.2.2, .slice S2 t.sh.length k2, .int .i64 t.mir, .complex .f32 t.gr.1 t.gr.2, .float .f32 t.loss, .slice B2 t.bs.length d2, .int .i64 t.tk, .slice L2 t.log.length q2] 33); obtain ⟨V3, hV3e⟩ : ∃ V3, V3 = w2.alloc (Obj.cells #[.int .i64 t.sz, .float .f32 t.st, .float .f32 t.li.1, .float .f32 t.li.2.1, .float .f32 t.li.2.2, .slice S2 t.sh.length k2, .int .i64 t.mir, .complex .f32 t.gr.1 t.gr.2, .float .f32 t.loss, .slice B2 t.bs.length d2, .int .i64 t.tk, .slice L2 t.log.length q2] 33) := ⟨_, rfl⟩; have zV3 : V3.heap.size = w2.heap.size + 1 := (by rw [hV3e]; simp); rw [← hV3e] at cc fc ca fa cb fb hW own own2; rw [← hV3e]; clear hV3e; have lc := cc.lt; replace la := ca.lt; replace lb := cb.lt
      have a0 := ca 0 _ rfl; have a1 := ca 1 _ rfl; have a2 := ca 2 _ rfl; have a3 := ca 3 _ rfl; have a4 := ca 4 _ rfl; have a5 := ca 5 _ rfl; have a6 := ca 6 _ rfl; have a7 := ca 7 _ rfl; have a8 := ca 8 _ rfl; have a9 := ca 9 _ rfl; have a10 := ca 10 _ rfl; have a11 := ca 11 _ rfl
      have R := Lib.hid own.rd
      go_wp2_with fail
      (with_reducible refine (KI.out _ R.out).mono ?_)
      rintro r w4 ⟨rfl, hb2⟩
      clear a0 a1 a2 a3 a4 a5 a6 a7 a8 a9 a10 a11 R
      replace own := own.below hb2
      replace own2 := own2.below hb2
      replace ca := ca.keep hb2; replace fa := fa.keep hb2 la; replace la := ca.lt; replace cb := cb.keep hb2; replace fb := fb.keep hb2 lb; replace lb := cb.lt; replace cc := cc.keep hb2; replace fc := fc.keep hb2 lc; replace lc := cc.lt; replace hW := then_ hW hb2
      clear hb2
      have c0 := cc 0 _ rfl; have c1 := cc 1 _ rfl; have c2 := cc 2 _ rfl; have c3 := cc 3 _ rfl; have c4 := cc 4 _ rfl; have c5 := cc 5 _ rfl; have c6 := cc 6 _ rfl; have c7 := cc 7 _ rfl; have c8 := cc 8 _ rfl; have c9 := cc 9 _ rfl; have c10 := cc 10 _ rfl; have c11 := cc 11 _ rfl
      have R := Lib.hid own2.rd
      go_wp2_with fail
      (with_reducible refine (KI2.out _ R.out).mono ?_)
      rintro r w5 ⟨rfl, hb2⟩
      clear c0 c1 c2 c3 c4 c5 c6 c7 c8 c9 c10 c11 R
      replace own2 := own2.below hb2
      replace ca := ca.keep hb2; replace fa := fa.keep hb2 la; replace la := ca.lt; replace cb := cb.keep hb2; replace fb := fb.keep hb2 lb; replace lb := cb.lt; replace cc := cc.keep hb2; replace fc := fc.keep hb2 lc; replace lc := cc.lt; replace hW := then_ hW hb2
      clear hb2 own
      have hlen : t.log.length = s.log.length + 1 := by rw [F1.out]; simp
      have r2 := own2.rd.rl
      rw [hlen] at r2
      obtain ⟨bb, off, e', rfl, hbl, hx, h0, h1, h2, h3, h4, h5, h6, h7, h8, h9, h10, h11, h12⟩ := r2.ev (k := s.log.length) (by omega)
      obtain rfl : e' = e := by
        rw [F1.out] at hx
        simp at hx
        exact hx.symm
      obtain ⟨g1, g2, g3⟩ := ev_good HE.out
      have kc := fun wx => run_eql_ev e'.k e'.n e'.z e'.s e'.c wx g1 g2 g3
      unfold evX at kc
      have a0 := ca 0 _ rfl; have a1 := ca 1 _ rfl; have a2 := ca 2 _ rfl; have a3 := ca 3 _ rfl; have a4 := ca 4 _ rfl; have a5 := ca 5 _ rfl; have a6 := ca 6 _ rfl; have a7 := ca 7 _ rfl; have a8 := ca 8 _ rfl; have a9 := ca 9 _ rfl; have a10 := ca 10 _ rfl; have a11 := ca 11 _ rfl
      have b0 := cb 0 _ rfl; have b1 := cb 1 _ rfl; have b2 := cb 2 _ rfl; have b3 := cb 3 _ rfl; have b4 := cb 4 _ rfl; have b5 := cb 5 _ rfl; have b6 := cb 6 _ rfl; have b7 := cb 7 _ rfl; have b8 := cb 8 _ rfl; have b9 := cb 9 _ rfl; have b10 := cb 10 _ rfl; have b11 := cb 11 _ rfl; have b12 := cb 12 _ rfl
      have c0 := cc 0 _ rfl; have c1 := cc 1 _ rfl; have c2 := cc 2 _ rfl; have c3 := cc 3 _ rfl; have c4 := cc 4 _ rfl; have c5 := cc 5 _ rfl; have c6 := cc 6 _ rfl; have c7 := cc 7 _ rfl; have c8 := cc 8 _ rfl; have c9 := cc 9 _ rfl; have c10 := cc 10 _ rfl; have c11 := cc 11 _ rfl
      rw [hlen] at c11
      rw [F2.out] at c9
      have n0 : (0 : Int) ≤ (s.log.length : Int) := by omega
      have n1 : (s.log.length : Int) < (s.log.length : Int) + 1 := by omega
      have w1' : IntKind.i64.wrap ((s.log.length : Int) + 1) = (s.log.length : Int) + 1 := by rw [IntKind.wrap_i64]; omega
      clear hlen hx g1 g2 g3 own2 r2 KI2 KM KD KI
      by_cases hk7 : e'.k = 7
      · have hk7' : (e'.k == 7) = true := by simp [hk7]
        have f3 := F3.out
        rw [if_pos hk7] at f3
        have hn : 0 ≤ e'.n ∧ e'.n ≤ 1000000 := by
          cases e' with
          | wait n =>
            have := HR.out
            simp only [evR] at this
            obtain ⟨u0, u1⟩ := inB_true this
            exact ⟨by show 0 ≤ n; omega, by show n ≤ 1000000; omega⟩
          | _ => simp [Ev.k] at hk7
        have w2' : IntKind.i64.wrap (s.tk + e'.n) = s.tk + e'.n := by rw [IntKind.wrap_i64]; omega
        rw [f3] at c10
        clear hk7 f3
        go_wp2_with fail
        go_quiet (fail)
        go_wp2
        go_ret
        exact ⟨rfl, by (repeat (first | with_reducible assumption | exact Below.refl _ _ | (refine Below.setCell ?_ (by first | exact Nat.le_refl _ | (simp; done) | omega | (simp; omega)) _) | (refine below_drewN ?_ _) | (refine Below.drew ?_) | (refine Below.alloc ?_ (by first | exact Nat.le_refl _ | (simp; done) | omega | (simp; omega)) _) | (refine then_ ?_ (by with_reducible assumption)) | assumption | (refine then_ ?_ (by assumption))))⟩
      · have hk7' : (e'.k == 7) = false := by simp [hk7]
        have f3 := F3.out
        rw [if_neg hk7, Int.add_zero] at f3
        have w2' : IntKind.i64.wrap s.tk = s.tk := by rw [IntKind.wrap_i64]; omega
        rw [f3] at c10
        clear hk7 f3
        go_wp2_with fail
        go_quiet (fail)
        go_wp2
        go_ret
        exact ⟨rfl, by (repeat (first | with_reducible assumption | exact Below.refl _ _ | (refine Below.setCell ?_ (by first | exact Nat.le_refl _ | (simp; done) | omega | (simp; omega)) _) | (refine below_drewN ?_ _) | (refine Below.drew ?_) | (refine Below.alloc ?_ (by first | exact Nat.le_refl _ | (simp; done) | omega | (simp; omega)) _) | (refine then_ ?_ (by with_reducible assumption)) | assumption | (refine then_ ?_ (by assumption))))⟩

namespace fnShowKeeps
theorem own : ownKnob Try.prog.godebug = none := by kernel_rfl
theorem laidOut : laidOutB Try.prog = true := by kernel_rfl
set_option maxRecDepth 100000 in
theorem lifted (os : Os) (started : os.Started) (H : Type) (enc : TypeId × Value → H) :
    ReturnsInHanded {} Try.checked os 4 .any (Rows.fnShowKeepsSpec.pre6 enc Try.prog Try.f4 Rows.fnShowKeepsRow.domain false) (Rows.fnShowKeepsSpec.post enc Try.prog Try.f4 false true false false) := by
  refine returnsInHanded_of_change (C := Try.checked) own started (by kernel_rfl) Try.func4
    (ChangeSpec.witness6 (enc := enc) (C := Try.checked) false ⟨#[], #[.slice none 0 0], []⟩ 8 (by kernel_rfl) (by kernel_rfl) (by kernel_rfl) (by kernel_rfl)) ?_
  intro W base args ds gs before hval0 hW hcnd _
  have hval : ∀ (j : Nat) t v, Try.f4.params[j]? = some t → args[j]? = some v → Value.okWide Try.prog W .any base t v := hval0
  have hW' := hW
  obtain ⟨p, q, hA0, hV, rfl, hfz, hnd⟩ := hW
  have hA : DataW.TrodAll enc Try.prog W 0 (fun _ => true) true Try.f4.params.toList args.toList ds p := hA0
  rw [Try.params4] at hA hval
  obtain ⟨v0, vs0, d0, ds0, p0, q0, hargs, rfl, rfl, h0, r0⟩ := trodAll_cons hA
  obtain ⟨rfl, rfl, rfl⟩ := trodAll_nil r0
  obtain rfl : args = #[v0] := by cases args; simp_all
  obtain ⟨rfl, rfl⟩ := trodVars_none hV
  have k0 := h0
  have lt0 : ∀ x ∈ p0, x.block < W.heap.size := by obtain ⟨m, hm⟩ := k0; exact DataW.trod_lt m _ _ _ hm
  obtain ⟨A, n, c, bs, rfl, hn, ha, hbs⟩ := open_bytes Try.underlying40 Try.underlying5 (by kernel_rfl) (hval 0 40 v0 rfl rfl) h0
  clear hA0 hval0
  refine (lawKeeps A n c bs W ha hbs).mono fun e W' ⟨he, bel⟩ => ?_
  subst he
  exact ⟨_, rfl, _, _, _, [], _, [], hW', trodAll_mk1 (shut_bool Try.underlying4 _), (trodAll_cons_mk (Below.trod laidOut (by kernel_rfl) (of_decide_eq_true (by kernel_rfl)) k0 bel lt0) trodAll_mk0), rfl, bel.frame _, fun h => by cases h⟩

theorem and_mk {a b : Bool} (h : a = true) (k : b = true) : (a && b) = true := by rw [h, k]; rfl
set_option maxHeartbeats 40000000 in
theorem facts : joinedFacts Try.pinned.checked.prog 4 Try.f4 Rows.fnShowKeepsSpec Rows.fnShowKeepsRow = true := by
  unfold joinedFacts
  repeat (with_reducible refine and_mk ?_ ?_)
  all_goals (as_aux_lemma => kernel_rfl)
theorem named_ : Try.pinned.checked.prog.funcNamed Rows.fnShowKeepsRow.func = some 4 := by kernel_rfl
theorem over : Rows.fnShowKeepsRow.holds Try.pinned (OpenSpec.ofChange Rows.fnShowKeepsSpec) :=
  OpenClaim.holds_of_wide 4 Try.f4 rfl rfl rfl rfl rfl rfl rfl ⟨rfl, rfl, rfl, rfl, rfl⟩ rfl rfl rfl rfl rfl named_ Try.func4 facts
    (of_decide_eq_true (by kernel_rfl)) (by unfold Func.isWrapper; first | (rw [if_pos (by decide +kernel)]; kernel_rfl) | (rw [if_neg (by decide +kernel)]; exact ⟨rfl, rfl⟩))
    (fun os started H enc _ => lifted os started H enc)

theorem proved : Rows.FnShowKeepsSaid := over
end fnShowKeeps
end Go.Proofs.Ytoafldgngbaddaa
